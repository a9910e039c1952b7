/- Types that lead nowhere back: told by a walk of their parts, once. -/
import Derived.JoinedCond
import Derived.KernelRfl
import Derived.Test.YtdgcepphjnoalaaGreatAwDraw2
import Derived.IntWalk
set_option linter.all false
namespace Go.AW
def zrF (P:Program):Nat->TypeId->Bool
 | 0,_=>false
 | n+1,t=>(P.partsOf t).all (zrF P n)
inductive Leads (P:Program):TypeId->TypeId->Prop
 | refl (t):Leads P t t
 | step {a b c}:Leads P a b->c∈P.partsOf b->Leads P a c
theorem dups_mem {x:Nat}{l:List Nat}(h:x∈l.eraseDups):x∈l:=List.mem_eraseDups.1 h
theorem zwd {P:Program}:∀(n:Nat) (seen:List TypeId) (t:TypeId),(∀x∈seen,Leads P t x)->∀x∈P.grown n seen,Leads P t x
 | 0,seen,t,h=>by simpa [Program.grown] using h
 | n+1,seen,t,h=>by
  rw[Program.grown];refine zwd n _ t fun x hx=>?_;have hx:=dups_mem hx;rcases List.mem_append.1 hx with hx|hx
  ·exact h x hx
  ·obtain⟨y,hy,hxy⟩:=List.mem_flatMap.1 hx;exact .step (h y hy) hxy
theorem zyX {P:Program}{t x:TypeId}(h:x∈P.book t):Leads P t x:=
 zwd _ _ _ (by simp;exact .refl t) x h
theorem tree_part {P:Program}{n:Nat}{t v:TypeId}(h:zrF P n t=true)(hv:v∈P.partsOf t):∃m,m<n/\zrF P m v=true:=by
 cases n with
 | zero=>simp[zrF]at h
 | succ n=>exact⟨n,by omega,List.all_eq_true.1 h v hv⟩
theorem zyb {P:Program}{n:Nat}{t u:TypeId}(h:zrF P n t=true)(hl:Leads P t u):∃m,m<=n/\zrF P m u=true:=by
 induction hl with
 | refl=>exact⟨n,Nat.le_refl _,h⟩
 | step _ hc ih=>
  obtain⟨m,h1,h2⟩:=ih
  obtain⟨k,h3,h4⟩:=tree_part h2 hc
  exact⟨k,by omega,h4⟩
theorem tree_no {P:Program}(n:Nat):∀(u v:TypeId),zrF P n u=true->v∈P.partsOf u->Leads P v u->False:=by
 induction n using Nat.strongRecOn with
 | _ n ih=>
  intro u v h hv hl
  obtain⟨k,h1,h2⟩:=tree_part h hv
  obtain⟨m,h3,h4⟩:=zyb h2 hl
  exact ih m (by omega) u v h4 hv hl
theorem loops_none {P:Program}{n:Nat}{t:TypeId}(h:zrF P n t=true):P.loopsFrom t=false:=by
 cases hl:P.loopsFrom t with
 | false=>rfl
 | true=>
  unfold Program.loopsFrom at hl
  obtain⟨u,hu,hl⟩:=List.any_eq_true.1 hl
  obtain⟨v,hv,hl⟩:=List.any_eq_true.1 hl
  have hc:u∈P.book v:=by simpa using hl
  obtain⟨m,_,h2⟩:=zyb h (zyX hu)
  exact(tree_no m u v h2 hv (zyX hc)).elim
theorem any_loops {P:Program}{ts:List TypeId}(h:ts.all (zrF P 24)=true):ts.any (fun t=>P.loopsFrom t)=false:=by
 rw[List.any_eq_false];intro t ht;rw[loops_none (List.all_eq_true.1 h t ht)];simp
inductive Note where
 | l (lv:List Nat) (dd:List (Nat × Nat))
 | d (rs:List (Nat × Nat)) (nd:List (Nat × List Nat))
 | dd (lin:List (Nat × List Nat)) (cl:List Nat)
def rg:List (Nat × Nat)->List Nat
 | []=>[]
 | (a,n)::r=>List.range' a n++rg r
def ndOf (i:Nat):List (Nat × List Nat)->List Nat
 | []=>[]
 | (j,l)::r=>match Nat.beq i j with
  | true=>l
  | false=>ndOf i r
def clo (acc:List Nat):List (List Nat)->List Nat
 | []=>acc
 | d::r=>clo (acc++[d.foldl (fun m j=>Nat.lor m (Nat.lor (2 ^ j) (acc.getD j 0))) 0]) r
def zxz:AC->List Note->AC × List Note
 | .draw l d _ _,.d rs nd::ns=>(.draw l d ((rg rs).map fun i=>(i,ndOf i nd)) (clo [] d),ns)
 | .draw l d _ _,.dd lin cl::ns=>(.draw l d lin cl,ns)
 | .seq a b,ns=>match zxz a ns with
  | (a',n1)=>match zxz b n1 with
   | (b',n2)=>(.seq a' b',n2)
 | .cond c a b,ns=>match zxz a ns with
  | (a',n1)=>match zxz b n1 with
   | (b',n2)=>(.cond c a' b',n2)
 | .block id a,ns=>match zxz a ns with
  | (a',n1)=>(.block id a',n1)
 | .loop _ _ a,.l lv dd::ns=>match zxz a ns with
  | (a',n1)=>(.loop lv (rg dd) a',n1)
 | .rangeF g ps a b,ns=>match zxz a ns with
  | (a',n1)=>match zxz b n1 with
   | (b',n2)=>(.rangeF g ps a' b',n2)
 | c,ns=>(c,ns)
theorem zfB:∀(c:AC) (ns:List Note),(zxz c ns).1.norm=c.norm
 | .skip,_|.ops _,_|.exit _,_|.ret,_=>by simp[zxz]
 | .draw l d _ _,ns=>by
  cases ns with
  | nil=>simp[zxz]
  | cons n ns=>cases n<;>simp[zxz,AC.norm]
 | .seq a b,ns=>by simp only[zxz,AC.norm,zfB a,zfB b]
 | .cond c a b,ns=>by simp only[zxz,AC.norm,zfB a,zfB b]
 | .block id a,ns=>by simp only[zxz,AC.norm,zfB a]
 | .rangeF g ps a b,ns=>by simp only[zxz,AC.norm,zfB a,zfB b]
 | .loop _ _ a,ns=>by
  cases ns with
  | nil=>simp[zxz]
  | cons n ns=>cases n<;>simp[zxz,AC.norm,zfB a]
def I.mark:I->I
 | .mkslice _ s n z p=>.mkslice true s n z p
 | .append _ s b z x y=>.append true s b z x y
 | .call _ f xs=>.call true f xs
 | i=>i
def AC.mark:AC->AC
 | .ops l=>.ops (l.map fun x=>{ x with i:=x.i.mark })
 | .draw l d p q=>.draw (l.map fun x=>{ x with i:=x.i.mark }) d p q
 | .seq a b=>.seq a.mark b.mark
 | .cond c a b=>.cond c a.mark b.mark
 | .block id a=>.block id a.mark
 | .loop p q a=>.loop p q a.mark
 | .rangeF g ps a b=>.rangeF g ps a.mark b.mark
 | c=>c
theorem I.norm_mark (i:I):i.mark.norm=i.norm:=by cases i<;>rfl
theorem AC.norm_mark:∀c:AC,c.mark.norm=c.norm
 | .skip|.exit _|.ret=>rfl
 | .ops l=>by simp[AC.mark,AC.norm,Ai.norm,Function.comp_def,I.norm_mark]
 | .draw l d _ _=>by simp[AC.mark,AC.norm,Ai.norm,Function.comp_def,I.norm_mark]
 | .seq a b=>by simp[AC.mark,AC.norm,norm_mark a,norm_mark b]
 | .cond c a b=>by simp[AC.mark,AC.norm,norm_mark a,norm_mark b]
 | .block _ a=>by simp[AC.mark,AC.norm,norm_mark a]
 | .loop _ _ a=>by simp[AC.mark,AC.norm,norm_mark a]
 | .rangeF g ps a b=>by simp only[AC.mark,AC.norm,norm_mark a,norm_mark b]
theorem compI_norm {P:Program}{o:Oper}{i:I}(h:zcE P o=some i):i.norm=i:=by
 unfold zcE at h;split at h;all_goals(try(repeat' split at h))
 all_goals(simp only[Option.bind_eq_bind,Option.bind_eq_some_iff,Option.pure_def,Option.some.injEq,reduceCtorEq]at h)
 all_goals(try(repeat (obtain⟨_,h⟩:=h)))
 all_goals first
  | rfl
  | (subst h;rfl)
  | (cases h;done)
  | (split at h<;>(try simp only[Option.bind_eq_bind,Option.bind_eq_some_iff,Option.pure_def,Option.some.injEq,reduceCtorEq]at h)<;>(try(repeat (obtain⟨_,h⟩:=h)))<;>first|rfl|(subst h;rfl))
theorem compO_norm {P:Program}{ops:Array Oper}{o:Oper}{x:Ai}(h:zwF P ops o=some x):x.norm=x:=by
 simp only[zwF,Option.bind_eq_bind,Option.bind_eq_some_iff]at h;obtain⟨i,hi,h⟩:=h;have hn:=compI_norm hi;split at h
 ·simp only[Option.pure_def,Option.some.injEq]at h;subst h;simp[Ai.norm,hn]
 ·simp only[Option.bind_eq_some_iff,Option.pure_def,Option.some.injEq]at h;obtain⟨_,_,_,_,h⟩:=h;subst h;simp[Ai.norm,hn]
theorem zvS {P:Program}{ops:Array Oper}:∀ {l:List Oper} {xs:List Ai},l.mapM (zwF P ops)=some xs->xs.map Ai.norm=xs
 | [],xs,h=>by simp at h;subst h;rfl
 | o::l,xs,h=>by
  simp only[List.mapM_cons,Option.bind_eq_bind,Option.bind_eq_some_iff,Option.pure_def,Option.some.injEq]at h;obtain⟨x,hx,ys,hy,h⟩:=h;subst h;simp[compO_norm hx,zvS hy]
theorem comp_norm {P:Program}:∀ {c:Code} {a:AC},znF P c=some a->a.norm=a:=by
 intro c;induction c with
 | skip=>intro a h;simp only[znF,Option.some.injEq]at h;subst h;rfl
 | region _ ops d=>
  intro a h
  cases d
  ·simp only[znF,Option.bind_eq_bind,Option.bind_eq_some_iff,Option.pure_def,Option.some.injEq]at h
   obtain⟨xs,hx,h⟩:=h
   subst h
   simp[AC.norm,zvS hx]
  ·simp only[znF,Option.bind_eq_bind,Option.bind_eq_some_iff,Option.pure_def,Option.some.injEq]at h
   obtain⟨xs,hx,h⟩:=h
   subst h
   simp[AC.norm,zvS hx]
 | seq a b ih1 ih2=>
  intro x h
  simp only[znF,Option.bind_eq_bind,Option.bind_eq_some_iff,Option.pure_def,Option.some.injEq]at h
  obtain⟨y,hy,z,hz,h⟩:=h
  subst h
  simp[AC.norm,ih1 hy,ih2 hz]
 | cond c a b ih1 ih2=>
  intro x h
  simp only[znF,Option.bind_eq_bind,Option.bind_eq_some_iff,Option.pure_def,Option.some.injEq]at h
  obtain⟨_,_,y,hy,z,hz,h⟩:=h
  subst h
  simp[AC.norm,ih1 hy,ih2 hz]
 | block id a ih=>
  intro x h
  simp only[znF,Option.bind_eq_bind,Option.bind_eq_some_iff,Option.pure_def,Option.some.injEq]at h
  obtain⟨y,hy,h⟩:=h
  subst h
  simp[AC.norm,ih hy]
 | loop a ih=>
  intro x h
  simp only[znF,Option.bind_eq_bind,Option.bind_eq_some_iff,Option.pure_def,Option.some.injEq]at h
  obtain⟨y,hy,h⟩:=h
  subst h
  simp[AC.norm,ih hy]
 | rangeFunc g ps ca cb iha ihb=>
  intro x h
  simp only[znF,Option.bind_eq_bind,Option.bind_eq_some_iff,Option.pure_def,Option.some.injEq]at h
  obtain⟨_,_,y,hy,z,hz,h⟩:=h
  subst h
  simp[AC.norm,iha hy,ihb hz]
 | exit id=>intro a h;simp only[znF,Option.some.injEq]at h;subst h;rfl
 | ret=>intro a h;simp only[znF,Option.some.injEq]at h;subst h;rfl
 | _=>intro a h;simp[znF]at h
def zyY (P:Program) (fn:Func):AC:=((fn.body.bind (znF P)).getD .skip)
def formOf (P:Program) (fn:Func) (na:Nat) (ns:List Note):AF:=⟨na,fn.ntmps,(fn.results.toList.mapM (riOk P)).getD [],(zxz (zyY P fn) ns).1⟩
def zAb (P:Program) (fn:Func) (na:Nat) (ns:List Note):AF:=⟨na,fn.ntmps,(fn.results.toList.mapM (riOk P)).getD [],(zxz (zyY P fn).mark ns).1⟩
def fnOk (P:Program) (fn:Func) (F:AF):Bool:=
 (fn.body.bind (znF P)).isSome&&(F.body.ok F.ntmps&&(Nat.ble F.nargs F.ntmps&&((fn.results.toList.mapM (riOk P)).isSome&&P.follows .mixedOrders)))
theorem isF_gen {P : Program} {f : FuncId} {fn : Func} {F : AF} (h1 : P.funcs[f]? = some fn) (h2 : fn.name ≠ "runtime.NumGoroutine") (hb : F.body.norm = (zyY P fn).norm) (hn : F.ntmps = fn.ntmps) (hr : F.res = (fn.results.toList.mapM (riOk P)).getD [])
  (h3:fnOk P fn F=true):isF P f F:=by
 simp only[fnOk,Bool.and_eq_true,Nat.ble_eq]at h3;obtain⟨c1,c2,c3,c4,c5⟩:=h3;obtain⟨a,ha⟩:=Option.isSome_iff_exists.1 c1;obtain⟨r,hr'⟩:=Option.isSome_iff_exists.1 c4;have hb2:zyY P fn=a:=by rw[zyY,ha];rfl
 simp only[Option.bind_eq_some_iff]at ha;obtain⟨c,hc,hca⟩:=ha;exact⟨fn,c,h1,h2,hc,by rw[hca,hb,hb2,comp_norm hca],c2,c3,by rw[hr,hr'];rfl,hn.symm,c5⟩
theorem isF_form {P : Program} {f : FuncId} {fn : Func} {na : Nat} {ns : List Note} (h1 : P.funcs[f]? = some fn) (h2 : fn.name ≠ "runtime.NumGoroutine") (h3 : fnOk P fn (formOf P fn na ns) = true) : isFn P f (formOf P fn na ns) na :=
 ⟨isF_gen h1 h2 (zfB _ _) rfl rfl h3,rfl⟩
theorem isF_formM {P : Program} {f : FuncId} {fn : Func} {na : Nat} {ns : List Note} (h1 : P.funcs[f]? = some fn) (h2 : fn.name ≠ "runtime.NumGoroutine") (h3 : fnOk P fn (zAb P fn na ns) = true) : isFn P f (zAb P fn na ns) na :=
 ⟨isF_gen h1 h2 ((zfB _ _).trans (AC.norm_mark _)) rfl rfl h3,rfl⟩
abbrev Goes (F:AF) (xs:List AV) (P:Program) (σ:List AObj) (Z:Option (List AV)->List AObj->Prop):Prop:=
 awp P F.body (AtEnd fun fr s=>Z (zux fr s F.res) s) (zlh 0 xs) σ
def ForF (P₀:Program) (f:FuncId) (na:Nat) (G:AF->Prop):Prop:=∃F,isFn P₀ f F na/\G F
abbrev ZT:=Option (List AV)->List AObj->Prop
theorem zg {P : Program} {f : FuncId} {fn : Func} {na : Nat} {G : AF → Prop} (ns : List Note) (h1 : P.funcs[f]? = some fn) (h2 : fn.name ≠ "runtime.NumGoroutine" := by decide +kernel) (h3 : fnOk P fn (formOf P fn na ns) = true := by kernel_rfl) (h4 : G (formOf P fn na ns) := by intros; rename_i h; exact cast (by kernel_rfl) h) : ForF P f na G :=
 ⟨_,isF_form h1 h2 h3,h4⟩
theorem znh {P : Program} {f : FuncId} {fn : Func} {na : Nat} {G : AF → Prop} (ns : List Note) (h1 : P.funcs[f]? = some fn) (h2 : fn.name ≠ "runtime.NumGoroutine" := by decide +kernel) (h3 : fnOk P fn (zAb P fn na ns) = true := by kernel_rfl) (h4 : G (zAb P fn na ns) := by intros; rename_i h; exact cast (by kernel_rfl) h) : ForF P f na G :=
 ⟨_,isF_formM h1 h2 h3,h4⟩
theorem ForF.is {P:Program}{f:FuncId}{na:Nat}{G:AF->Prop}(h:ForF P f na G):isFn P f (Classical.choose h) na:=(Classical.choose_spec h).1
theorem ForF.goes {P:Program}{f:FuncId}{na:Nat}{G:AF->Prop}(h:ForF P f na G):G (Classical.choose h):=(Classical.choose_spec h).2
abbrev F0 (P₀:Program) (f:FuncId) (S:Program->LO->ZT->Prop):Prop:=ForF P₀ f 0 fun F=>∀ {P:Program} {σ:LO} {Z:ZT},S P σ Z->Goes F [] P σ Z
abbrev F1 (P₀:Program) (f:FuncId) (S:Program->AV->LO->ZT->Prop):Prop:=ForF P₀ f 1 fun F=>∀ {P:Program} {x0:AV} {σ:LO} {Z:ZT},S P x0 σ Z->Goes F [x0] P σ Z
abbrev F2 (P₀:Program) (f:FuncId) (S:Program->AV->AV->LO->ZT->Prop):Prop:=ForF P₀ f 2 fun F=>∀ {P:Program} {x0 x1:AV} {σ:LO} {Z:ZT},S P x0 x1 σ Z->Goes F [x0,x1] P σ Z
abbrev F3 (P₀:Program) (f:FuncId) (S:Program->AV->AV->AV->LO->ZT->Prop):Prop:=ForF P₀ f 3 fun F=>∀ {P:Program} {x0 x1 x2:AV} {σ:LO} {Z:ZT},S P x0 x1 x2 σ Z->Goes F [x0,x1,x2] P σ Z
abbrev F4 (P₀:Program) (f:FuncId) (S:Program->AV->AV->AV->AV->LO->ZT->Prop):Prop:=ForF P₀ f 4 fun F=>∀ {P:Program} {x0 x1 x2 x3:AV} {σ:LO} {Z:ZT},S P x0 x1 x2 x3 σ Z->Goes F [x0,x1,x2,x3] P σ Z
abbrev F5 (P₀:Program) (f:FuncId) (S:Program->AV->AV->AV->AV->AV->LO->ZT->Prop):Prop:=ForF P₀ f 5 fun F=>∀ {P:Program} {x0 x1 x2 x3 x4:AV} {σ:LO} {Z:ZT},S P x0 x1 x2 x3 x4 σ Z->Goes F [x0,x1,x2,x3,x4] P σ Z
theorem acE0 {P:Program}{f:FuncId}{S:Program->LO->ZT->Prop}(e:F0 P f S){σ:LO}{K:AV->LO->Prop}(h:zhl σ.length σ->S P  σ (Ends σ.length K)):ACall P f [] σ K:=zlr e.is rfl fun hl _=>e.goes (h hl)
theorem zez {P:Program}{f:FuncId}{S:Program->AV->LO->ZT->Prop}(e:F1 P f S){x0:AV}{σ:LO}{K:AV->LO->Prop}(h:zhl σ.length σ->S P x0 σ (Ends σ.length K)):ACall P f [x0] σ K:=zlr e.is rfl fun hl _=>e.goes (h hl)
theorem zec {P:Program}{f:FuncId}{S:Program->AV->AV->LO->ZT->Prop}(e:F2 P f S){x0 x1:AV}{σ:LO}{K:AV->LO->Prop}(h:zhl σ.length σ->S P x0 x1 σ (Ends σ.length K)):ACall P f [x0,x1] σ K:=zlr e.is rfl fun hl _=>e.goes (h hl)
theorem acE3 {P:Program}{f:FuncId}{S:Program->AV->AV->AV->LO->ZT->Prop}(e:F3 P f S){x0 x1 x2:AV}{σ:LO}{K:AV->LO->Prop}(h:zhl σ.length σ->S P x0 x1 x2 σ (Ends σ.length K)):ACall P f [x0,x1,x2] σ K:=zlr e.is rfl fun hl _=>e.goes (h hl)
theorem acE4 {P:Program}{f:FuncId}{S:Program->AV->AV->AV->AV->LO->ZT->Prop}(e:F4 P f S){x0 x1 x2 x3:AV}{σ:LO}{K:AV->LO->Prop}(h:zhl σ.length σ->S P x0 x1 x2 x3 σ (Ends σ.length K)):ACall P f [x0,x1,x2,x3] σ K:=zlr e.is rfl fun hl _=>e.goes (h hl)
theorem acE5 {P:Program}{f:FuncId}{S:Program->AV->AV->AV->AV->AV->LO->ZT->Prop}(e:F5 P f S){x0 x1 x2 x3 x4:AV}{σ:LO}{K:AV->LO->Prop}(h:zhl σ.length σ->S P x0 x1 x2 x3 x4 σ (Ends σ.length K)):ACall P f [x0,x1,x2,x3,x4] σ K:=zlr e.is rfl fun hl _=>e.goes (h hl)
def I.zmark:I->I
 | .mv (.lit (.exact []))=>.nilc
 | i=>i
def AC.zmark:AC->AC
 | .ops l=>.ops (l.map fun x=>{ x with i:=x.i.zmark })
 | .draw l d p q=>.draw (l.map fun x=>{ x with i:=x.i.zmark }) d p q
 | .seq a b=>.seq a.zmark b.zmark
 | .cond c a b=>.cond c a.zmark b.zmark
 | .block id a=>.block id a.zmark
 | .loop p q a=>.loop p q a.zmark
 | .rangeF g ps a b=>.rangeF g ps a.zmark b.zmark
 | c=>c
theorem I.norm_zmark (i:I):i.zmark.norm=i.norm:=by
 unfold I.zmark;split<;>rfl
theorem AC.norm_zmark:∀c:AC,c.zmark.norm=c.norm
 | .skip|.exit _|.ret=>rfl
 | .ops l=>by simp[AC.zmark,AC.norm,Ai.norm,Function.comp_def,I.norm_zmark]
 | .draw l d _ _=>by simp[AC.zmark,AC.norm,Ai.norm,Function.comp_def,I.norm_zmark]
 | .seq a b=>by simp[AC.zmark,AC.norm,norm_zmark a,norm_zmark b]
 | .cond c a b=>by simp[AC.zmark,AC.norm,norm_zmark a,norm_zmark b]
 | .block _ a=>by simp[AC.zmark,AC.norm,norm_zmark a]
 | .loop _ _ a=>by simp[AC.zmark,AC.norm,norm_zmark a]
 | .rangeF g ps a b=>by simp only[AC.zmark,AC.norm,norm_zmark a,norm_zmark b]
def formZOf (P:Program) (fn:Func) (na:Nat) (ns:List Note):AF:=⟨na,fn.ntmps,(fn.results.toList.mapM (riOk P)).getD [],(zxz (zyY P fn).zmark ns).1⟩
theorem formZ_of {P : Program} {f : FuncId} {fn : Func} {na : Nat} {G : AF → Prop} (ns : List Note) (h1 : P.funcs[f]? = some fn) (h2 : fn.name ≠ "runtime.NumGoroutine") (h3 : fnOk P fn (formZOf P fn na ns) = true) (h4 : G (formZOf P fn na ns)) : ForF P f na G :=
 ⟨_,⟨isF_gen h1 h2 ((zfB _ _).trans (AC.norm_zmark _)) rfl rfl h3,rfl⟩,h4⟩
section
variable {P:Program} {w:World} {L:Nat->Loc} {σ:List AObj}
def idxK:List Nat->Nat->Nat->Option Nat
 | [],_,_=>none
 | k::ks,id,m=>if id=k then some m else idxK ks id (m+1)
def zqN (n:Nat) (ks:List Nat) (id:Nat):Option Nat:=if id<n then some id else idxK ks id n
mutual
def zeH (f:Nat->Option Nat):AV->Option AV
 | .d x=>some (.d x)
 | .agg cs=>match zml f cs with|some l=>some (.agg l)|none=>none
 | .tup cs=>match zml f cs with|some l=>some (.tup l)|none=>none
 | .own t es=>match f t with|some t'=>some (.own t' es)|none=>none
 | .exact es=>some (.exact es)
 | .bsl id off len cap sz=>match f id with|some i=>some (.bsl i off len cap sz)|none=>none
 | .box id off=>match f id with|some i=>some (.box i off)|none=>none
 | .vp cs=>some (.vp cs)
 | .map id=>match f id with|some i=>some (.map i)|none=>none
 | .iter id=>match f id with|some i=>some (.iter i)|none=>none
 | .fn g a b=>match zml f a,zml f b with|some a',some b'=>some (.fn g a' b')|_,_=>none
 | .rsl t g sz lo hi=>match f t with|some t'=>some (.rsl t' g sz lo hi)|none=>none
 | .rpt t g off=>match f t with|some t'=>some (.rpt t' g off)|none=>none
 | .nils=>some .nils
 | .undef=>some .undef
def zml (f:Nat->Option Nat):List AV->Option (List AV)
 | []=>some []
 | a::l=>match zeH f a,zml f l with|some a',some l'=>some (a'::l')|_,_=>none
end
def renPs (f:Nat->Option Nat):List (AV × AV)->Option (List (AV × AV))
 | []=>some []
 | e::l=>match zeH f e.1,zeH f e.2,renPs f l with|some a,some b,some l'=>some ((a,b)::l')|_,_,_=>none
def zpP (f:Nat->Option Nat):AObj->Option AObj
 | .box cs=>match zml f cs with|some l=>some (.box l)|none=>none
 | .map es=>match renPs f es with|some l=>some (.map l)|none=>none
 | .tok sz n=>some (.tok sz n)
 | .iter s p=>some (.iter s p)
 | .dead=>some .dead
 | .mapr c bs es=>match renPs f es with|some l=>some (.mapr c bs l)|none=>none
 | .mit none c s=>some (.mit none c s)
 | .lrec b r vs=>match zml f vs with|some l=>some (.lrec b r l)|none=>none
 | .mit (some m) c s=>match f m with|some m'=>some (.mit (some m') c s)|none=>none
 | .row g sz cs=>match zml f cs with|some l=>some (.row g sz l)|none=>none
def zvA (f:Nat->Option Nat):List AObj->Option (List AObj)
 | []=>some []
 | x::l=>match zpP f x,zvA f l with|some a,some l'=>some (a::l')|_,_=>none
theorem zfk {f:Nat->Option Nat}:∀ {l l':List AV},zml f l=some l'→l'.length=l.length/\∀(i:Nat) a b,l[i]? = some a->l'[i]? = some b->zeH f a=some b
 | [],l',h=>by simp[zml]at h;subst h;simp
 | a::l,l',h=>by
  simp only[zml]at h;split at h
  ·rename_i a' t h1 h2;cases h;obtain⟨g1,g2⟩:=zfk h2;refine⟨by simp[g1],fun i x y hx hy=>?_⟩;cases i with
   | zero=>simp at hx hy;subst hx hy;exact h1
   | succ i=>exact g2 i x y hx hy
  ·cases h
theorem zvz {f:Nat->Option Nat}:∀ {l l':List (AV × AV)},renPs f l=some l'→l'.length=l.length/\∀(i:Nat) a b,l[i]? = some a->l'[i]? = some b->zeH f a.1=some b.1/\zeH f a.2=some b.2
 | [],l',h=>by simp[renPs]at h;subst h;simp
 | a::l,l',h=>by
  simp only[renPs]at h;split at h
  ·rename_i a' b' t h1 h2 h3;cases h;obtain⟨g1,g2⟩:=zvz h3;refine⟨by simp[g1],fun i x y hx hy=>?_⟩;cases i with
   | zero=>simp at hx hy;subst hx hy;exact⟨h1,h2⟩
   | succ i=>exact g2 i x y hx hy
  ·cases h
theorem renOs_get {f:Nat->Option Nat}:∀ {l l':List AObj},zvA f l=some l'→l'.length=l.length/\∀(i:Nat) a b,l[i]? = some a->l'[i]? = some b->zpP f a=some b
 | [],l',h=>by simp[zvA]at h;subst h;simp
 | a::l,l',h=>by
  simp only[zvA]at h;split at h
  ·rename_i a' t h1 h2;cases h;obtain⟨g1,g2⟩:=renOs_get h2;refine⟨by simp[g1],fun i x y hx hy=>?_⟩;cases i with
   | zero=>simp at hx hy;subst hx hy;exact h1
   | succ i=>exact g2 i x y hx hy
  ·cases h
structure zAI (L L2:Nat->Loc) (σ σ2:List AObj) (f:Nat->Option Nat):Prop where
 obj:∀id i x,f id=some i→σ[id]? = some x->L2 i=L id/\∃y,σ2[i]? = some y/\y.kind=x.kind/\(∀sz n,x=.tok sz n->y=.tok sz n)/\(∀g sz cs,x=.row g sz cs->∃cs',y=.row g sz cs'∧cs'.length=cs.length)
 own:∀b o,Own L2 σ2 b o->Own L σ b o
theorem RV.ren {L2:Nat->Loc}{σ2:List AObj}{f:Nat->Option Nat}(R:zAI L L2 σ σ2 f){x y:AV}{v:Value}(h:RV w L σ x v)(hy:zeH f x=some y):RV w L2 σ2 y v:=by
 have rd:∀ {x:D} {v:Value},RD w (Own L σ) x v->RD w (Own L2 σ2) x v:=fun h=>ziO R.own h;have fx:∀ {id i},f id=some i->zqc σ id->L2 i=L id/\zqc σ2 i:=fun{id i} hf ⟨z,h1,h2⟩=>by
  obtain⟨e,y,g1,g2,_⟩:=R.obj id i z hf h1;exact⟨e,y,g1,by rw[g2];exact h2⟩
 have rw':∀ {t i},f t=some i->zxZ σ t->L2 i=L t/\zxZ σ2 i/\∀g sz cs',σ2[i]? = some (.row g sz cs')->∃cs,σ[t]? = some (.row g sz cs)/\cs'.length=cs.length:=fun{t i} hf ⟨z,h1,h2⟩=>by
  obtain⟨e,y,g1,g2,_,g4⟩:=R.obj t i z hf h1;refine⟨e,⟨y,g1,by rw[g2];exact h2⟩,fun g sz cs' e'=>?_⟩;rw[g1]at e';cases e';cases z with
  | row g0 sz0 cs0=>
   obtain⟨cs2,e2,e3⟩:=g4 g0 sz0 cs0 rfl
   cases e2
   exact⟨cs0,h1,e3⟩
  | _=>simp[AObj.kind]at g2
 induction h generalizing y with
 | d _ _ h=>simp[zeH]at hy;subst hy;exact .d _ _ (rd h)
 | agg cs vs h1 h2 ih=>
  simp only[zeH]at hy
  split at hy
  ·rename_i l hl
   cases hy
   obtain⟨g1,g2⟩:=zfk hl
   refine .agg _ _ (by omega) fun i c v hc hv=>?_
   have hi:=zo hc
   have hx:cs[i]? = some (cs[i]'(by omega)):=List.getElem?_eq_getElem _
   exact ih i _ v hx hv (g2 i _ c hx hc)
  ·cases hy
 | tup cs vs h1 h2 ih=>
  simp only[zeH]at hy
  split at hy
  ·rename_i l hl
   cases hy
   obtain⟨g1,g2⟩:=zfk hl
   refine .tup _ _ (by omega) fun i c v hc hv=>?_
   have hi:=zo hc
   have hx:cs[i]? = some (cs[i]'(by omega)):=List.getElem?_eq_getElem _
   exact ih i _ v hx hv (g2 i _ c hx hc)
  ·cases hy
 | own t es v sz k h1 h2 h3 h4 h5=>
  simp only[zeH]at hy
  split at hy
  ·rename_i t' ht
   cases hy
   obtain⟨e,y,g1,g2,g3,_⟩:=R.obj t t' _ ht h1
   rw[g3 sz k rfl]at g1
   exact .own t' es v sz k g1 h2 h3 (rd h4) (by rw[e];exact h5)
  ·cases hy
 | exact es a h=>simp[zeH]at hy;subst hy;exact .exact _ _ (rd h)
 | nils=>simp[zeH]at hy;subst hy;exact .nils
 | bsl id off len cap sz h1 h2=>
  simp only[zeH]at hy
  split at hy
  ·rename_i i hi
   cases hy
   obtain⟨e,g⟩:=fx hi h1
   rw[← e];exact .bsl _ _ _ _ _ g h2
  ·cases hy
 | box id off h1=>
  simp only[zeH]at hy
  split at hy
  ·rename_i i hi
   cases hy
   obtain⟨e,g⟩:=fx hi h1
   rw[← e];exact .box _ _ g
  ·cases hy
 | vp cs b off h=>
  simp[zeH]at hy;subst hy
  refine .vp _ _ _ fun j d hj=>?_
  obtain⟨v,h1,h2,h3⟩:=h j d hj
  exact⟨v,h1,fun h=>h2 (R.own _ _ h),rd h3⟩
 | map id h1=>
  simp only[zeH]at hy
  split at hy
  ·rename_i i hi
   cases hy
   obtain⟨e,g⟩:=fx hi h1
   rw[← e];exact .map _ g
  ·cases hy
 | iter id h1=>
  simp only[zeH]at hy
  split at hy
  ·rename_i i hi
   cases hy
   obtain⟨e,g⟩:=fx hi h1
   rw[← e];exact .iter _ g
  ·cases hy
 | fn g first cap fs cs h1 h2 _ _ ih1 ih2=>
  simp only[zeH]at hy
  split at hy
  ·rename_i a b ha hb
   cases hy
   obtain⟨g1,g2⟩:=zfk ha
   obtain⟨k1,k2⟩:=zfk hb
   refine .fn _ _ _ _ _ (by omega) (by omega) (fun i c v hc hv=>?_) (fun i c v hc hv=>?_)
   ·have hi:=zo hc
    have hx:first[i]? = some (first[i]'(by omega)):=List.getElem?_eq_getElem _
    exact ih1 i _ v hx hv (g2 i _ c hx hc)
   ·have hi:=zo hc
    have hx:cap[i]? = some (cap[i]'(by omega)):=List.getElem?_eq_getElem _
    exact ih2 i _ v hx hv (k2 i _ c hx hc)
  ·cases hy
 | rsl t g sz lo hi a c h1 h2 h3 h4 h5 h6 h7=>
  simp only[zeH]at hy
  split at hy
  ·rename_i i hi'
   cases hy
   obtain⟨e,k1,k2⟩:=rw' hi' h1
   refine .rsl _ _ _ _ _ _ _ k1 (fun g' sz' cs' e'=>?_) h3 h4 h5 h6 (fun sz' cs' e'=>?_)
   ·obtain⟨cs,e2,_⟩:=k2 g' sz' cs' e'
    exact h2 g' sz' cs e2
   ·obtain⟨cs,e2,e3⟩:=k2 g sz' cs' e'
    rw[e,e3]
    exact h7 sz' cs e2
  ·cases hy
 | rpt t g off b o h1 h2 h3=>
  simp only[zeH]at hy
  split at hy
  ·rename_i i hi'
   cases hy
   obtain⟨e,k1,k2⟩:=rw' hi' h1
   refine .rpt _ _ _ _ _ k1 (fun g' sz' cs' e'=>?_) (fun sz' cs' e'=>?_)
   ·obtain⟨cs,e2,_⟩:=k2 g' sz' cs' e'
    exact h2 g' sz' cs e2
   ·obtain⟨cs,e2,e3⟩:=k2 g sz' cs' e'
    rw[e]
    exact h3 sz' cs e2
  ·cases hy
 | undef v=>simp[zeH]at hy;subst hy;exact .undef v
theorem renAV_sc {f:Nat->Option Nat}{a b:AV}(h:zeH f a=some b)(hs:sc a=true):sc b=true:=by
 cases a<;>simp only[zeH]at h<;>first
  | (simp[sc]at hs;done)
  | (cases h;rfl)
  | (split at h<;>first|(cases h;rfl)|(cases h;done))
theorem zsG.ren {L2:Nat->Loc}{σ2:List AObj}{f:Nat->Option Nat}(R:zAI L L2 σ σ2 f){x y:AObj}{l:Loc}(h:zsG w L σ l x)(hy:zpP f x=some y):zsG w L2 σ2 l y:=by
 cases x with
 | box cs=>
  simp only[zpP]at hy
  split at hy
  ·rename_i l' hl
   cases hy
   obtain⟨g1,g2⟩:=zfk hl
   obtain⟨h1,h2,h3⟩:=h
   refine⟨h1,h2,fun j c hj=>?_⟩
   have hi:=zo hj
   have hx:cs[j]? = some (cs[j]'(by omega)):=List.getElem?_eq_getElem _
   obtain⟨h4,v,h5,h6⟩:=h3 j _ hx
   exact⟨h4,v,h5,h6.ren R (g2 j _ c hx hj)⟩
  ·cases hy
 | map es=>
  simp only[zpP]at hy
  split at hy
  ·rename_i l' hl
   cases hy
   obtain⟨g1,g2⟩:=zvz hl
   obtain⟨ms,clock,h1,h2,h3,h4⟩:=h
   refine⟨ms,clock,h1,by omega,fun i e m he hm=>?_,h4⟩
   have hi:=zo he
   have hx:es[i]? = some (es[i]'(by omega)):=List.getElem?_eq_getElem _
   have k:=h3 i _ m hx hm
   have q:=g2 i _ e hx he
   exact⟨k.1.ren R q.1,k.2.ren R q.2⟩
  ·cases hy
 | mapr c bs es=>
  simp only[zpP]at hy
  split at hy
  ·rename_i l' hl
   cases hy
   obtain⟨g1,g2⟩:=zvz hl
   obtain⟨ms,h1,h2,h3,h4⟩:=h
   refine⟨ms,h1,by omega,fun i e m he hm=>?_,h4⟩
   have hi:=zo he
   have hx:es[i]? = some (es[i]'(by omega)):=List.getElem?_eq_getElem _
   have k:=h3 i _ m hx hm
   have q:=g2 i _ e hx he
   exact⟨k.1.ren R q.1,k.2.ren R q.2⟩
  ·cases hy
 | lrec b r vs=>
  simp only[zpP]at hy
  split at hy
  ·rename_i l' hl
   cases hy
   obtain⟨g1,g2⟩:=zfk hl
   obtain⟨h1,h2,h3,h4⟩:=h
   refine⟨h1,h2,by omega,fun i c v hc hv=>?_⟩
   have hi:=zo hc
   have hx:vs[i]? = some (vs[i]'(by omega)):=List.getElem?_eq_getElem _
   exact(h4 i _ v hx hv).ren R (g2 i _ c hx hc)
  ·cases hy
 | mit m c seen=>
  cases m with
  | none=>simp[zpP]at hy;subst hy;exact h
  | some m=>
   simp only[zpP]at hy
   split at hy
   ·rename_i m' hm
    cases hy
    obtain⟨⟨z,k1,k2⟩,h2⟩:=h
    obtain⟨e,z',g1,g2,_⟩:=R.obj m m' z hm k1
    exact⟨⟨z',g1,by rw[g2];exact k2⟩,by rw[e];exact h2⟩
   ·cases hy
 | row g sz cs=>
  simp only[zpP]at hy
  split at hy
  ·rename_i l' hl
   cases hy
   obtain⟨g1,g2⟩:=zfk hl
   obtain⟨h1,h2,hsc,hs,h3,h4⟩:=h
   refine⟨h1,by rw[g1];exact h2,fun d hd=>?_,hs,h3,fun j c hj=>?_⟩
   ·obtain⟨j,hj⟩:=List.mem_iff_getElem?.1 hd
    have hi:=zo hj
    have hx:cs[j]? = some (cs[j]'(by omega)):=List.getElem?_eq_getElem _
    exact renAV_sc (g2 j _ d hx hj) (hsc _ (List.mem_of_getElem? hx))
   ·have hi:=zo hj
    have hx:cs[j]? = some (cs[j]'(by omega)):=List.getElem?_eq_getElem _
    obtain⟨v,h5,h6⟩:=h4 j _ hx
    exact⟨v,h5,h6.ren R (g2 j _ c hx hj)⟩
  ·cases hy
 | tok sz n=>simp[zpP]at hy;subst hy;exact h
 | iter s p=>simp[zpP]at hy;subst hy;exact h
 | dead=>simp[zpP]at hy;subst hy;exact h
theorem zmk {f:Nat->Option Nat}{x y:AObj}(h:zpP f x=some y):y.kind=x.kind/\(∀sz n,x=.tok sz n->y=.tok sz n)/\(∀g sz cs,x=.row g sz cs->∃cs',y=.row g sz cs'∧cs'.length=cs.length)/\∀(l:Loc) b o,zfw l y b o↔zfw l x b o:=by
 cases x with
 | box cs=>
  simp only[zpP]at h
  split at h
  ·rename_i l hl
   cases h
   obtain⟨g1,_⟩:=zfk hl
   exact⟨rfl,nofun,nofun,fun l b o=>by simp only[zfw];rw[g1]⟩
  ·cases h
 | map es=>
  simp only[zpP]at h
  split at h
  ·cases h
   exact⟨rfl,nofun,nofun,fun l b o=>Iff.rfl⟩
  ·cases h
 | mapr c bs es=>
  simp only[zpP]at h
  split at h
  ·cases h
   exact⟨rfl,nofun,nofun,fun l b o=>Iff.rfl⟩
  ·cases h
 | lrec b r vs=>
  simp only[zpP]at h
  split at h
  ·cases h
   exact⟨rfl,nofun,nofun,fun l b o=>Iff.rfl⟩
  ·cases h
 | mit m c seen=>
  cases m with
  | none=>simp only[zpP,Option.some.injEq]at h;subst h;exact⟨rfl,nofun,nofun,fun l b o=>Iff.rfl⟩
  | some m=>
   simp only[zpP]at h
   split at h
   ·cases h
    exact⟨rfl,nofun,nofun,fun l b o=>Iff.rfl⟩
   ·cases h
 | row g sz cs=>
  simp only[zpP]at h
  split at h
  ·rename_i l hl
   cases h
   obtain⟨g1,_⟩:=zfk hl
   exact⟨rfl,nofun,fun g' sz' cs' e=>by cases e;exact⟨l,rfl,g1⟩,fun l b o=>Iff.rfl⟩
  ·cases h
 | tok sz n=>simp[zpP]at h;subst h;exact⟨rfl,fun _ _ e=>e,nofun,fun _ _ _=>Iff.rfl⟩
 | iter s p=>simp[zpP]at h;subst h;exact⟨rfl,nofun,nofun,fun _ _ _=>Iff.rfl⟩
 | dead=>simp[zpP]at h;subst h;exact⟨rfl,nofun,nofun,fun _ _ _=>Iff.rfl⟩
mutual
theorem zrM {n:Nat}{f:Nat->Option Nat}(hf:∀id,id<n->f id=some id):∀ {x:AV},Low n x->zeH f x=some x
 | .d x,_=>rfl
 | .agg cs,h=>by cases h with|agg _ h=>simp only[zeH,zhc hf h]
 | .tup cs,h=>by cases h with|tup _ h=>simp only[zeH,zhc hf h]
 | .own t es,h=>by cases h with|own _ _ h=>simp only[zeH,hf t h]
 | .exact es,_=>rfl
 | .nils,_=>rfl
 | .bsl id off len cap sz,h=>by cases h with|bsl _ _ _ _ _ h=>simp only[zeH,hf id h]
 | .box id off,h=>by cases h with|box _ _ h=>simp only[zeH,hf id h]
 | .vp cs,_=>rfl
 | .map id,h=>by cases h with|map _ h=>simp only[zeH,hf id h]
 | .iter id,h=>by cases h with|iter _ h=>simp only[zeH,hf id h]
 | .fn g a b,h=>by cases h with|fn _ _ _ h1 h2=>simp only[zeH,zhc hf h1,zhc hf h2]
 | .rsl t g sz lo hi,h=>by cases h with|rsl _ _ _ _ _ h=>simp only[zeH,hf t h]
 | .rpt t g off,h=>by cases h with|rpt _ _ _ h=>simp only[zeH,hf t h]
 | .undef,_=>rfl
theorem zhc {n:Nat}{f:Nat->Option Nat}(hf:∀id,id<n->f id=some id):∀ {l:List AV},(∀c∈l,Low n c)->zml f l=some l
 | [],_=>rfl
 | a::l,h=>by simp only[zml,zrM hf (h a List.mem_cons_self),zhc hf (fun c hc=>h c (List.mem_cons_of_mem _ hc))]
end
theorem zvy {n:Nat}{f:Nat->Option Nat}(hf:∀id,id<n->f id=some id):∀ {l:List (AV × AV)},(∀e∈l,Low n e.1/\Low n e.2)->renPs f l=some l
 | [],_=>rfl
 | a::l,h=>by
  have:=h a List.mem_cons_self;simp only[renPs,zrM hf this.1,zrM hf this.2,zvy hf (fun c hc=>h c (List.mem_cons_of_mem _ hc))]
theorem renO_low {n:Nat}{f:Nat->Option Nat}(hf:∀id,id<n->f id=some id){x:AObj}(h:ztL n x):zpP f x=some x:=by
 cases x with
 | box cs=>simp only[zpP,zhc hf h]
 | map es=>simp only[zpP,zvy hf h]
 | mapr c bs es=>simp only[zpP,zvy hf h]
 | lrec b r vs=>simp only[zpP,zhc hf h]
 | mit m c seen=>
  cases m with
  | none=>rfl
  | some m=>simp only[zpP,hf m h]
 | row g sz cs=>simp only[zpP,zhc hf h]
 | _=>rfl
theorem idxK_spec:∀ {ks:List Nat} {id m i:Nat},idxK ks id m=some i->m<=i/\ks[i-m]? = some id
 | [],_,_,_,h=>by simp[idxK]at h
 | k::ks,id,m,i,h=>by
  simp only[idxK]at h;split at h
  ·rename_i e;cases h;exact⟨Nat.le_refl _,by simp[e]⟩
  ·obtain⟨h1,h2⟩:=idxK_spec h;exact⟨by omega,by rw[show i-m=(i-(m+1))+1 by omega];simpa using h2⟩
def getL (σ:List AObj):List Nat->Option (List AObj)
 | []=>some []
 | k::ks=>match σ[k]?,getL σ ks with|some x,some l=>some (x::l)|_,_=>none
theorem getL_get:∀ {ks:List Nat} {l:List AObj},getL σ ks=some l->l.length=ks.length/\∀(i:Nat) k x,ks[i]? = some k->l[i]? = some x→σ[k]? = some x
 | [],l,h=>by simp[getL]at h;subst h;simp
 | k::ks,l,h=>by
  simp only[getL]at h;split at h
  ·rename_i x t h1 h2;cases h;obtain⟨g1,g2⟩:=getL_get h2;refine⟨by simp[g1],fun i k x hk hx=>?_⟩;cases i with
   | zero=>simp at hk hx;subst hk hx;exact h1
   | succ i=>exact g2 i k x hk hx
  ·cases h
def zAK (n:Nat) (ks:List Nat) (K:KT) (out:Option (List AV)) (σ':List AObj):Prop:=
 match out with
 | some l=>n≤σ'.length/\zhl n (σ'.take n)/\(∀k∈ks,n<=k)/\ks.Nodup ∧
  match getL σ' ks with
  | some os=>match zvA (zqN n ks) os,zeH (zqN n ks) (zcm l)with
   | some os',some r=>K r (σ'.take n++os')
   | _,_=>False
  | none=>False
 | none=>False
def zsH (n:Nat) (ks:List AObj->List Nat) (K:KT) (out:Option (List AV)) (σ':List AObj):Prop:=zAK n (ks σ') K out σ'
theorem keep_sound {n:Nat}{ks:List Nat}{os os':List AObj}(S:Sim L σ w)(hn:n≤σ.length)(hlow:zhl n (σ.take n))(hks:∀k∈ks,n<=k)(hnd:ks.Nodup)(hos:getL σ ks=some os)(hos':zvA (zqN n ks) os=some os') :
  ∃L2,(∀id,id<n->L2 id=L id)/\zAI L L2 σ (σ.take n++os') (zqN n ks)/\Sim L2 (σ.take n++os') w:=by
 have hlt:(σ.take n).length=n:=by simp[hn]
 obtain⟨a1,a2⟩:=getL_get hos;obtain⟨b1,b2⟩:=renOs_get hos';let src:Nat->Nat:=fun i=>if i<n then i else ks.getD (i-n) 0
 refine⟨fun i=>L (src i),fun id h=>by simp[src,h],?_,?_⟩;all_goals
  have obj2:∀i y,(σ.take n++os')[i]? = some y->∃x,σ[src i]? = some x/\zpP (zqN n ks) x=some y/\(i<n∨n<=i/\ks[i-n]? = some (src i)):=fun i y hy=>by
   rcases Nat.lt_or_ge i n with hi|hi
   ·rw[List.getElem?_append_left (by omega),List.getElem?_take,if_pos hi]at hy;refine⟨y,by simpa [src,hi] using hy,renO_low (n:=n) (fun id h=>by simp[zqN,h]) (hlow i y (by rw[List.getElem?_take,if_pos hi];exact hy)),.inl hi⟩
   ·rw[List.getElem?_append_right (by omega),hlt]at hy;have h1:=zo hy;have hx:os[i-n]? = some (os[i-n]'(by omega)):=List.getElem?_eq_getElem _;have hk:ks[i-n]? = some (ks[i-n]'(by omega)):=List.getElem?_eq_getElem _;have hsrc:src i=ks[i-n]'(by omega):=by
     have:¬i<n:=by omega
     simp[src,this,List.getD,hk]
    exact⟨_,by rw[hsrc];exact a2 _ _ _ hk hx,b2 _ _ y hx hy,.inr ⟨hi,by rw[hsrc];exact hk⟩⟩
  have foot:∀b o,Own (fun i=>L (src i)) (σ.take n++os') b o->Own L σ b o:=fun b o ⟨i,y,hy,hf⟩=>by
   obtain⟨x,h1,h2,_⟩:=obj2 i y hy;exact⟨src i,x,h1,((zmk h2).2.2.2 _ _ _).1 hf⟩
  have R:zAI L (fun i=>L (src i)) σ (σ.take n++os') (zqN n ks):=⟨fun id i x hi hx=>by
   unfold zqN at hi;split at hi
   ·rename_i hid;cases hi;refine⟨by simp[src,hid],x,?_,rfl,fun _ _ e=>e,fun g sz cs e=>⟨cs,e,rfl⟩⟩;rw[List.getElem?_append_left (by omega),List.getElem?_take,if_pos hid];exact hx
   ·obtain⟨h1,h2⟩:=idxK_spec hi;have hi':¬i<n:=by omega
    have hsrc:src i=id:=by simp[src,hi',List.getD,h2]
    refine⟨by rw[hsrc],?_⟩;have h3:=zo h2;have hy:(σ.take n++os')[i]? = some (os'[i-n]'(by omega)):=by
     rw[List.getElem?_append_right (by omega),hlt];exact List.getElem?_eq_getElem _
    obtain⟨x',g1,g2,_⟩:=obj2 i _ hy;rw[hsrc,hx]at g1;cases g1;exact⟨_,hy,(zmk g2).1,(zmk g2).2.1,(zmk g2).2.2.1⟩,foot⟩
 ·exact R
 ·refine⟨fun i y hy=>?_,fun i j x y b o hij hx hy hfx hfy=>?_⟩
  ·obtain⟨x,h1,h2,_⟩:=obj2 i y hy;exact(S.obj _ _ h1).ren R h2
  ·obtain⟨x',h1,h2,h3⟩:=obj2 i x hx;obtain⟨y',g1,g2,g3⟩:=obj2 j y hy;have hne:src i≠src j:=by
    rcases h3 with hi|⟨hi,hki⟩<;>rcases g3 with hj|⟨hj,hkj⟩
    ·simpa [src,hi,hj] using hij
    ·have:=hks _ (List.mem_of_getElem? hkj);have e:src i=i:=by simp[src,hi]
     omega
    ·have:=hks _ (List.mem_of_getElem? hki);have e:src j=j:=by simp[src,hj]
     omega
    ·intro e;rw[e]at hki;have l1:=zo hki;have l2:=zo hkj;have:=(List.getElem?_inj l1 hnd).1 (hki.trans hkj.symm);omega
   exact S.apart _ _ _ _ b o hne h1 g1 (((zmk h2).2.2.2 _ _ _).1 hfx) (((zmk g2).2.2.2 _ _ _).1 hfy)
theorem zbO {f:FuncId}{F:AF}{na:Nat}(hF:isFn P f F na){as0:List AV}(has:as0.length=na){K:KT}(ks:List AObj->List Nat)
  (h:zhl σ.length σ->(∀a∈as0,Low σ.length a)->awp P F.body (AtEnd fun fr' σ'=>zsH σ.length ks K (zux fr' σ' F.res) σ') (zlh 0 as0) σ):ACall P f as0 σ K:=
 zoQ hF has _ (fun{L w L' σ' w' fr' ts} S st S' F' hz=>by
  unfold zsH zAK at hz;split at hz
  ·rename_i l hl;obtain⟨z0,z1,z2,z3,z4⟩:=hz;split at z4
   ·rename_i os hos;split at z4
    ·rename_i os' r hos' hr;obtain⟨L2,k1,k2,k3⟩:=keep_sound S' z0 z1 z2 z3 hos hos';refine⟨L2,_,l,r,hl,⟨st.os,st.tape,st.output,st.size,st.blk,st.cell,st.fz,fun b o hb ho=>st.own b o hb (k2.own b o ho),by simp;omega,fun id x hx=>?_⟩,k3,fun v hv=>hv.ren k2 hr,z4⟩;have hid:=zo hx;obtain⟨x',g1,g2,g3,g4,g5⟩:=st.turns id x hx;refine⟨x',by rw[List.getElem?_append_left (by simp;omega),List.getElem?_take,if_pos hid];exact g1,g2,fun hk hk5=>(k1 id hid).trans (g3 hk hk5),fun sz n e=>?_,fun g sz cs e=>?_⟩
     ·obtain⟨n',e1,e2,e3⟩:=g4 sz n e;exact⟨n',e1,e2,fun e=>(k1 id hid).trans (e3 e)⟩
     ·rcases g5 g sz cs e with h|⟨g',cs',e1,e2,e3⟩
      ·exact .inl h
      ·exact .inr ⟨g',cs',e1,e2,fun e=>⟨(k1 id hid).trans (e3 e).1,(e3 e).2⟩⟩
    ·exact z4.elim
   ·exact z4.elim
  ·exact hz.elim) h
end
section
variable {P:Program} {w:World} {L:Nat->Loc} {σ:List AObj}
theorem ACall.tok {f:FuncId}{xs:List AV}{es:List (List D)}{sz:Nat}(hsz:∀e∈es,e.length=sz){K:KT}
  (h:ACall P f xs σ fun r σ'=>(r=.own σ.length es∧σ'=σ++[.tok sz es.length])∨(r=.exact es∧σ'=σ)) (hK:K (.own σ.length es) (σ++[.tok sz es.length])):ACall P f xs σ K:=
 ⟨h.1,fun L w vs S hv=>(h.2 L w vs S hv).mono fun e w' he=>by
  cases e with
  | panicked ch=>exact he
  | outgrown=>exact he
  | returned v=>
   obtain⟨L',σ',r,s,S',hr,hcase⟩:=he
   rcases hcase with⟨rfl,rfl⟩|⟨rfl,rfl⟩
   ·exact⟨L',_,_,s,S',hr,hK⟩
   ·obtain⟨a,hv',hrd,ha,hs⟩:=zmv hr
    obtain⟨st,S2⟩:=add_tok S' sz es.length a ha hs
    refine⟨_,_,_,s.trans st,S2,?_,hK⟩
    refine .own _ _ _ sz es.length (by simp) (Nat.le_refl _) hsz (st.rd hrd) fun _=>?_
    rw[hv',zX]
    cases a<;>rfl⟩
end
variable {σ:List AObj}
abbrev bcs (bs:List UInt8):List (List D):=bs.map zch
theorem ziA {bs:List UInt8}:∀e∈bcs bs,e.length=1:=by
 intro e he;obtain⟨b,_,rfl⟩:=List.mem_map.1 he;rfl
theorem zaj (bs:List UInt8):(bcs bs).length=bs.length:=by simp[bcs]
theorem ziz (bs:List UInt8):zrw (bcs bs)=some bs:=by
 induction bs with
 | nil=>rfl
 | cons b bs ih=>
  simp only[bcs]at ih
  simp only[bcs,List.map_cons,zch,zrw,ih,Option.map_some]
  simp
theorem ztI (a b:List UInt8):bcs a++bcs b=bcs (a++b):=by simp[bcs]
theorem zA {α:Type}(σ τ:List α)(k:Nat):(σ++τ)[σ.length+k]? = τ[k]?:=by
 rw[List.getElem?_append_right (by omega),Nat.add_sub_cancel_left]
theorem zC {α:Type}(σ τ:List α):(σ++τ)[σ.length]? = τ[0]?:=by
 rw[List.getElem?_append_right (by omega),Nat.sub_self]
theorem zZ {α:Type}(σ τ:List α)(k:Nat)(x:α):(σ++τ).set (σ.length+k) x=σ++τ.set k x:=by
 rw[List.set_append_right _ _ (by omega),Nat.add_sub_cancel_left]
theorem zad {α:Type}(σ τ:List α)(x:α):(σ++τ).set σ.length x=σ++τ.set 0 x:=by
 rw[List.set_append_right _ _ (by omega),Nat.sub_self]
theorem zbg {α:Type}(σ τ:List α):(σ++τ).length=σ.length+τ.length:=by simp
theorem zi {α:Type}{σ τ:List α}{id:Nat}{x:α}(h:σ[id]? = some x):(σ++τ)[id]? = some x:=by
 rw[List.getElem?_append_left (List.getElem?_eq_some_iff.1 h).1];exact h
theorem zdk {α:Type}{σ τ:List α}{id:Nat}{x y:α}(h:σ[id]? = some x):(σ++τ).set id y=σ.set id y++τ:=by
 rw[List.set_append_left _ _ (List.getElem?_eq_some_iff.1 h).1]
theorem map_dm1_d (ds:List D):(ds.map AV.d).map dm1=ds.map AV.d:=by simp[Function.comp_def,dm1]
theorem zms (n:Nat)(ds:List D):∀c∈ds.map AV.d,Low n c:=by
 intro c hc;obtain⟨d,_,rfl⟩:=List.mem_map.1 hc;exact .d _
inductive Tag {α:Sort _} (p:α):Type
 | mk
def BBL (b:Bool) (p q:Prop) (_:Tag p) (_:Tag q):Prop:=BB b p q
def ACallL (P:Program) (f:FuncId) (as_:List AV) (σ:List AObj) (K:KT) (_:Tag K):Prop:=ACall P f as_ σ K
theorem zcf (P:Program)(f:FuncId)(as_:List AV)(σ:List AObj)(K:KT):ACall P f as_ σ K=ACallL P f as_ σ K .mk:=rfl
def loopCL (init:List AV) (σ:List AObj) (round:List AV->List AObj->(List AV->List AObj->Prop)->Prop) (_:Tag round):Prop:=zbd init σ round
theorem zep (init:List AV)(σ:List AObj)(round:List AV->List AObj->(List AV->List AObj->Prop)->Prop):zbd init σ round=loopCL init σ round .mk:=rfl
theorem zap (p q:Prop)(t:Tag p)(u:Tag q):BBL true p q t u=p:=zAL p q
theorem zR (p q:Prop)(t:Tag p)(u:Tag q):BBL false p q t u=q:=zvg p q
theorem zV {b:Bool}{p q:Prop}{t:Tag p}{u:Tag q}(h1:b=true->p)(h2:b=false->q):BBL b p q t u:=⟨h1,h2⟩
theorem zbb (b:Bool)(p q:Prop)(t:Tag p)(u:Tag q):BBL (!b) p q t u=BBL b q p u t:=BB_not b p q
theorem zan (b:Bool)(body:KT->Prop)(σ:List AObj)(K:KT):ziQ (.d (.bool b)) true body σ K=BBL b (body K) (K (.tup []) σ) .mk .mk:=by
 simp only[ziQ,BB_beqT];rfl
theorem zao (b:Bool)(body:KT->Prop)(σ:List AObj)(K:KT):ziQ (.d (.bool b)) false body σ K=BBL b (K (.tup []) σ) (body K) .mk .mk:=by
 simp only[ziQ,BB_beqF];rfl
theorem zaA (w:Bool)(body:KT->Prop)(σ:List AObj)(K:KT):ziQ (.tup []) w body σ K=K (.tup []) σ:=rfl
theorem zaE (b:Bool)(p q:Prop):zh (.d (.bool b)) p q=BBL b p q .mk .mk:=rfl
theorem zbf (b:Bool)(x y:AV)(σ:List AObj)(K:KT):zxE (.d (.bool b)) x y σ K=BBL b (K x σ) (K y σ) .mk .mk:=rfl
theorem zmb (b:Bool)(body:KT->Prop)(σ:List AObj)(K:KT):gF (.d (.bool b)) body σ K=BBL b (K (.tup []) σ) (body K) .mk .mk:=zao b body σ K
theorem zlZ (b:Bool)(body:KT->Prop)(σ:List AObj)(K:KT):gT (.d (.bool b)) body σ K=BBL b (body K) (K (.tup []) σ) .mk .mk:=zan b body σ K
theorem zmc (body:KT->Prop)(σ:List AObj)(K:KT):gF (.tup []) body σ K=K (.tup []) σ:=rfl
theorem zma (body:KT->Prop)(σ:List AObj)(K:KT):gT (.tup []) body σ K=K (.tup []) σ:=rfl
theorem zeu (b:Bool)(x:AV)(σ:List AObj)(K:KT):gFm (.d (.bool b)) x σ K=BBL b (K (.tup []) σ) (K x σ) .mk .mk:=zao b _ σ K
theorem zeq (b:Bool)(x:AV)(σ:List AObj)(K:KT):gTm (.d (.bool b)) x σ K=BBL b (K x σ) (K (.tup []) σ) .mk .mk:=zan b _ σ K
theorem zev (x:AV)(σ:List AObj)(K:KT):gFm (.tup []) x σ K=K (.tup []) σ:=rfl
theorem zer (x:AV)(σ:List AObj)(K:KT):gTm (.tup []) x σ K=K (.tup []) σ:=rfl
theorem zmd (off:Nat)(x:AV)(σ:List AObj)(K:KT):fl off x σ K=zc off x σ fun a s=>ze false 1 a s K:=rfl
theorem zeo (off:Nat)(x:AV)(σ:List AObj)(K:KT):nfl off x σ K=zbc x σ fun b s=>zc off b s fun a s=>ze false 1 a s K:=rfl
theorem zew (b:Bool)(off:Nat)(x:AV)(σ:List AObj)(K:KT):gFl (.d (.bool b)) off x σ K=BBL b (K (.tup []) σ) (zc off x σ fun a s=>ze false 1 a s K) .mk .mk:=by
 cases b<;>simp[gFl,zao,zap,zR]
theorem zes (b:Bool)(off:Nat)(x:AV)(σ:List AObj)(K:KT):gTl (.d (.bool b)) off x σ K=BBL b (zc off x σ fun a s=>ze false 1 a s K) (K (.tup []) σ) .mk .mk:=by
 cases b<;>simp[gTl,zan,zap,zR]
theorem zex (off:Nat)(x:AV)(σ:List AObj)(K:KT):gFl (.tup []) off x σ K=K (.tup []) σ:=rfl
theorem zet (off:Nat)(x:AV)(σ:List AObj)(K:KT):gTl (.tup []) off x σ K=K (.tup []) σ:=rfl
theorem zlY (m:Bool)(sz n:Nat)(x i:AV)(σ:List AObj)(K:KT):il m sz n x i σ K=zM none sz x i σ fun a s=>ze m n a s K:=rfl
theorem zmf (z:List AV)(n:Nat)(x:AV)(σ:List AObj)(K:KT):cp z n x σ K=zae z σ fun b s=>zl n b x s fun _ s=>K b s:=rfl
theorem zen (b:Bool)(x:AV)(σ:List AObj)(K:KT):orC (.d (.bool b)) x σ K=BBL b (K (.d (.bool true)) σ) (K x σ) .mk .mk:=rfl
theorem zey (b:Bool)(x:AV)(σ:List AObj)(K:KT):anC (.d (.bool b)) x σ K=BBL b (K x σ) (K (.d (.bool false)) σ) .mk .mk:=rfl
theorem zmg (P:Program)(f:FuncId)(as_:List AV)(σ:List AObj)(K:KT):cA P f as_ σ K=ACallL P f (as_.map dm) σ K .mk:=rfl
theorem zmh (op:BinOp)(x y:AV)(σ:List AObj)(K:KT):bP op x y σ K=zeO op .plain x y σ K:=rfl
theorem zlW (Z:Option (List AV)->List AObj->Prop)(a:AV)(σ:List AObj):z1 Z a σ=Z (zH (some a) (some [])) σ:=rfl
theorem zlV (Z:Option (List AV)->List AObj->Prop)(a b:AV)(σ:List AObj):z2 Z a b σ=Z (zH (some a) (zH (some b) (some []))) σ:=rfl
theorem zlX (n:Nat)(z:List AV)(x:AV)(σ:List AObj)(K:KT):m1 n z x σ K=zr false n 1 (zK (rep z 1) [(0,n,x)]) σ K:=rfl
theorem zmV (σ τ:List AObj):(σ++τ).take σ.length=σ:=by simp
theorem ztr {σ τ:List AObj}{K:KT}{l:List AV}(h1:Low σ.length (dmT (zcm l)))(hl:zhl σ.length σ)(h:K (dmT (zcm l)) σ):Ends σ.length K (some l) (σ++τ):=by
 unfold Ends;rw[zmV];exact⟨h1,hl,h⟩
theorem zwi {K:KT}{l:List AV}(h1:Low σ.length (dmT (zcm l)))(hl:zhl σ.length σ)(h:K (dmT (zcm l)) σ):Ends σ.length K (some l) σ:=by
 unfold Ends;rw[List.take_length];exact⟨h1,hl,h⟩
theorem finP {σ τ:List AObj}{K:KT}{l:List AV}(hl:zhl σ.length σ)(h:K (dmT (zcm l)) σ)(h1:Low σ.length (dmT (zcm l)):=by simp[zha,dmT,dm,dm1,zcm,zbw,zfs,zxx]):Ends σ.length K (some l) (σ++τ):=ztr h1 hl h
theorem finQ {K:KT}{l:List AV}(hl:zhl σ.length σ)(h:K (dmT (zcm l)) σ)(h1:Low σ.length (dmT (zcm l)):=by simp[zha,dmT,dm,dm1,zcm,zbw,zfs,zxx]):Ends σ.length K (some l) σ:=zwi h1 hl h
theorem kk7 {x:Int}(h:x=7):(x==1)=false/\(x==2)=false/\(x==3)=false/\(x==4)=false/\(x==5)=false/\(x==6)=false/\(x==7)=true/\(x==8)=false/\(x==9)=false/\(x==10)=false/\(x==11)=false/\(x==12)=false:=by subst h;exact⟨rfl,rfl,rfl,rfl,rfl,rfl,rfl,rfl,rfl,rfl,rfl,rfl⟩
theorem kk8 {x:Int}(h:x=8):(x==1)=false/\(x==2)=false/\(x==3)=false/\(x==4)=false/\(x==5)=false/\(x==6)=false/\(x==7)=false/\(x==8)=true/\(x==9)=false/\(x==10)=false/\(x==11)=false/\(x==12)=false:=by subst h;exact⟨rfl,rfl,rfl,rfl,rfl,rfl,rfl,rfl,rfl,rfl,rfl,rfl⟩
theorem kk12 {x:Int}(h:x=12):(x==1)=false/\(x==2)=false/\(x==3)=false/\(x==4)=false/\(x==5)=false/\(x==6)=false/\(x==7)=false/\(x==8)=false/\(x==9)=false/\(x==10)=false/\(x==11)=false/\(x==12)=true:=by subst h;exact⟨rfl,rfl,rfl,rfl,rfl,rfl,rfl,rfl,rfl,rfl,rfl,rfl⟩
structure Hd (p:Prop):Prop where
 go:p
theorem zu {σ s:List AObj}{K:KT}{l:List AV}(hl:zhl σ.length σ)(h:K (dmT (zcm l)) σ)(e:∃τ,s=σ++τ:=by first|with_reducible exact⟨_,rfl⟩|exact⟨[],(List.append_nil _).symm⟩)(h1:Low σ.length (dmT (zcm l)):=by simp[zha,dmT,dm,dm1,zcm,zbw,zfs,zxx]):Ends σ.length K (some l) s:=by
 obtain⟨τ,rfl⟩:=e;exact ztr h1 hl h
theorem zop {P:Prop}(e:P:=by(try simp only[decide_eq_true_eq,decide_eq_false_iff_not,beq_iff_eq,beq_eq_false_iff_ne,bne_iff_ne,ne_eq,Bool.not_eq_true',Bool.not_eq_false',bne_eq_false_iff_eq]at *);omega):P:=e
theorem zxa {p q:Prop}(h2:q)(h1:p:=by first|omega|rfl|decide|(simp;done)|fail):p/\q:=⟨h1,h2⟩
theorem endsL_none {σ τ:List AObj}{K:KT}{l:List AV}{r:AV}(hl:zhl σ.length σ)(hr:zeH (zqN σ.length []) (zcm l)=some r)(h:K r σ):zAK σ.length [] K (some l) (σ++τ):=by
 simp only[zAK,getL,zvA,hr,zmV];refine⟨by simp,hl,by simp,by simp,by simpa using h⟩
theorem endsL_none0 {K:KT}{l:List AV}{r:AV}(hl:zhl σ.length σ)(hr:zeH (zqN σ.length []) (zcm l)=some r)(h:K r σ):zAK σ.length [] K (some l) σ:=by
 have:=endsL_none (τ:=[]) hl hr h;simpa using this
theorem endsL_own {σ τ:List AObj}{K:KT}{t sz n:Nat}{es:List (List D)}(hl:zhl σ.length σ)(ht:σ.length<=t)(hg:(σ++τ)[t]? = some (.tok sz n))(h:K (.own σ.length es) (σ++[.tok sz n])) :
  zAK σ.length [t] K (some [.own t es]) (σ++τ):=by
 have h1:¬t<σ.length:=by omega
 simp only[zAK,getL,hg,zvA,zpP,zcm,zeH,zqN,idxK,h1,if_false,if_true,zmV];exact⟨by simp,hl,by simpa using ht,by simp,h⟩
theorem znk {ks:List AObj->List Nat}{K:KT}{l:List AV}{r:AV}(hks:ks σ=[])(hl:zhl σ.length σ)(hr:zeH (zqN σ.length []) (zcm l)=some r)(h:K r σ):zsH σ.length ks K (some l) σ:=by
 unfold zsH;rw[hks];exact endsL_none0 hl hr h
theorem zoE {σ τ:List AObj}{ks:List AObj->List Nat}{K:KT}{t sz n:Nat}{es:List (List D)}(hks:ks (σ++τ)=[t])(hl:zhl σ.length σ)(ht:σ.length<=t)(hg:(σ++τ)[t]? = some (.tok sz n))(h:K (.own σ.length es) (σ++[.tok sz n])) :
  zsH σ.length ks K (some [.own t es]) (σ++τ):=by
 unfold zsH;rw[hks];exact endsL_own hl ht hg h
theorem zmx {ks:List AObj->List Nat}{K:KT}{sz n:Nat}{es:List (List D)}(hl:zhl σ.length σ)(hks:ks (σ++[.tok sz n])=[σ.length])(h:K (.own σ.length es) (σ++[.tok sz n])) :
  zsH σ.length ks K (some [.own σ.length es]) (σ++[.tok sz n]):=zoE hks hl (Nat.le_refl _) List.getElem?_concat_length h
def zaK (N:Nat) (I:Nat->List AV->List AObj->Prop) (k:Nat) (vs:List AV) (s:List AObj):Prop:=∃n',n'<N-k/\∃k',k'≤N/\n'=N-k'∧I k' vs s
theorem zaK.next {N:Nat}{I:Nat->List AV->List AObj->Prop}{k:Nat}{vs:List AV}{s:List AObj}(hk:k<N)(h:I (k+1) vs s):zaK N I k vs s:=
 ⟨N-(k+1),by omega,k+1,by omega,rfl,h⟩
theorem zaK.to {N:Nat}{I:Nat->List AV->List AObj->Prop}{k:Nat}{vs:List AV}{s:List AObj}(k':Nat)(hk:k<k')(hk':k'≤N)(h:I k' vs s):zaK N I k vs s:=
 ⟨N-k',by omega,k',by omega,rfl,h⟩
theorem zoz {init:List AV}{round:List AV->List AObj->(List AV->List AObj->Prop)->Prop}(N:Nat)(I:Nat->List AV->List AObj->Prop){vs0:List AV}{s0:List AObj}(hw:zqb init σ vs0 s0)
  (h0:I 0 vs0 s0) (h:∀k vs s,k<=N->I k vs s->round vs s (zaK N I k)):zbd init σ round:=by
 refine⟨fun n vs s=>∃k,k<=N/\n=N-k/\I k vs s,N,⟨vs0,s0,hw,0,Nat.zero_le _,rfl,h0⟩,?_⟩;rintro n vs s ⟨k,hk,rfl,hI⟩;exact h k vs s hk hI
theorem zn {init:List AV}{round:List AV->List AObj->(List AV->List AObj->Prop)->Prop}(N:Nat)(I:Nat->List AV->List AObj->Prop)
  (h0:I 0 init σ) (h:∀k vs s,k<=N->I k vs s->round vs s (zaK N I k)):zbd init σ round:=zoz N I (.refl _ _) h0 h
theorem zvP:decide (((0:Nat):Int)>0)=false:=rfl
theorem zvM:decide (((1:Nat):Int)>0)=true:=rfl
theorem zvJ:decide (((2:Nat):Int)>0)=true:=rfl
theorem zvQ:(((0:Nat):Int)==0)=true:=rfl
theorem zkt:(((1:Nat):Int)==0)=false:=rfl
theorem zvN:(((1:Nat):Int)==1)=true:=rfl
theorem zvK:(((2:Nat):Int)==2)=true:=rfl
theorem zvO:(((0:Nat):Int) != 0)=false:=rfl
theorem zvL:(((1:Nat):Int) != 1)=false:=rfl
theorem zks:(((1:Nat):Int) != 0)=true:=rfl
theorem zku:(((0:Nat):Int) != 1)=true:=rfl
theorem zwb:((0:Int) != 0)=false:=rfl
theorem zwc:((0:Int)==0)=true:=rfl
theorem zL (a:AV)(l:List AV)(k:AV->List AV->Prop):zaH (a::l) k=k a l:=rfl
theorem Q0 {α:Type _}{a:α}{l:List α}:(a::l)[0]? = some a:=rfl
theorem Q1 {α:Type _}{a:α}{i:Nat}{l:List α}:(a::l)[i+1]? = l[i]?:=rfl
theorem Q2 {α:Type _}{β:Type _}{f:α→β}{a:α}{l:List α}:List.map f (a::l)=f a::List.map f l:=rfl
theorem Q3 {α:Type _}{β:Type _}{f:α→β}:List.map f []=[]:=rfl
theorem Q4 {α:Type _}{a:α}{as0:List α}:(a::as0).length=as0.length+1:=rfl
theorem Q5 {α:Type _}:([]:List α).length=0:=rfl
theorem Q6 {α:Type _}(as0 bs cs:List α):as0++bs++cs=as0++(bs++cs):=List.append_assoc as0 bs cs
theorem Q7 {α:Type _}{a:α}{as0 bs:List α}:a::as0++bs=a::(as0++bs):=rfl
theorem Q8 {α:Type _}(as0:List α):[]++as0=as0:=rfl
theorem Q9 {α:Type _}{x:α}{xs:List α}{a:α}:(x::xs).set 0 a=a::xs:=rfl
theorem Q10 {α:Type _}{x:α}{xs:List α}{i:Nat}{a:α}:(x::xs).set (i+1) a=x::xs.set i a:=rfl
theorem Q11 (n m k:Nat):n+m+k=n+(m+k):=Nat.add_assoc n m k
theorem Q12 (n:Nat):0+n=n:=Nat.zero_add n
theorem Q13 (n:Nat):n+0=n:=rfl
theorem Q14 (n:Nat):n*1=n:=Nat.mul_one n
theorem Q15 (n:Nat):((n:Int)).toNat=n:=rfl
theorem Q16 {α:Type _}{β:Type _}(a:α)(f:α→β):Option.map f (some a)=some (f a):=rfl
theorem Q17 {α:Type _}{β:Type _}(f:α→β):Option.map f none=none:=rfl
theorem Q18:(false=true)=False:=Bool.false_eq_true
theorem Q19 {α:Sort _}{x:Decidable True}(t e:α):(if True then t else e)=t:=if_true t e
theorem Q20 {α:Sort _}{x:Decidable False}(t e:α):(if False then t else e)=e:=if_false t e
theorem Q21 (p:Prop):(True/\p)=p:=true_and p
theorem Q22 (p:Prop):(p/\True)=p:=and_true p
theorem Q23 {α:Type _}{a:α}{as0:List α}{i:Nat}:List.take (i+1) (a::as0)=a::List.take i as0:=rfl
theorem Q24 {α:Type _}{l:List α}:List.take 0 l=[]:=rfl
theorem Q25 {α:Type _}{a:α}{l:List α}{i:Nat}:List.drop (i+1) (a::l)=List.drop i l:=rfl
theorem Q26 {α:Type _}{l:List α}:List.drop 0 l=l:=rfl
theorem Q27 {α:Type _}{i:Nat}:List.take i ([]:List α)=[]:=List.take_nil
theorem Q28 {α:Type _}{i:Nat}:List.drop i ([]:List α)=[]:=List.drop_nil
theorem Q29 (n:Nat):n<=n:=Nat.le_refl n
theorem Q30 {α:Type _}(as0:List α):as0++[]=as0:=List.append_nil as0
theorem Q31 {α:Type _}{a:α}{l:List α}{f:α->Bool}:(a::l).all f=(f a&&l.all f):=rfl
theorem Q32 {α:Type _}{f:α->Bool}:[].all f=true:=rfl
theorem Q33 (b:Bool):(b&&true)=b:=Bool.and_true b
theorem Q34 (b:Bool):(b&&b)=b:=Bool.and_self b
theorem Q35 (n:Nat):¬n<n:=Nat.lt_irrefl n
theorem Q36 (n:Nat):0*n=0:=Nat.zero_mul n
theorem Q37 (n:Nat):n-0=n:=rfl
theorem Q38 {α:Type _}{l:List α}{L:List (List α)}:(l::L).flatten=l++L.flatten:=rfl
theorem Q39 {α:Type _}:([]:List (List α)).flatten=[]:=rfl
end Go.AW
