/- Types that lead nowhere back: told by a walk of their parts, once. -/
import Derived.JoinedCond
import Derived.KernelRfl
import Derived.Test.YtdgcepphjnoalaaGreatAwDraw2
set_option linter.all false
namespace Go.AW
def zrG (P:Program):Nat->TypeId->Bool
 | 0,_=>false
 | n+1,t=>(P.partsOf t).all (zrG P n)
inductive Leads (P:Program):TypeId->TypeId->Prop
 | refl (t):Leads P t t
 | step {a b c}:Leads P a b->c∈P.partsOf b->Leads P a c
theorem dups_mem {x:Nat}{l:List Nat}(h:x∈l.eraseDups):x∈l:=List.mem_eraseDups.1 h
theorem zwj {P:Program}:∀(n:Nat) (seen:List TypeId) (t:TypeId),(∀x∈seen,Leads P t x)->∀x∈P.grown n seen,Leads P t x
 | 0,seen,t,h=>by simpa [Program.grown] using h
 | n+1,seen,t,h=>by
  rw[Program.grown];refine zwj n _ t fun x hx=>?_;have hx:=dups_mem hx;rcases List.mem_append.1 hx with hx|hx
  ·exact h x hx
  ·obtain⟨y,hy,hxy⟩:=List.mem_flatMap.1 hx;exact .step (h y hy) hxy
theorem zyY {P:Program}{t x:TypeId}(h:x∈P.book t):Leads P t x:=
 zwj _ _ _ (by simp;exact .refl t) x h
theorem tree_part {P:Program}{n:Nat}{t v:TypeId}(h:zrG P n t=true)(hv:v∈P.partsOf t):∃m,m<n/\zrG P m v=true:=by
 cases n with
 | zero=>simp[zrG]at h
 | succ n=>exact⟨n,by omega,List.all_eq_true.1 h v hv⟩
theorem zyc {P:Program}{n:Nat}{t u:TypeId}(h:zrG P n t=true)(hl:Leads P t u):∃m,m<=n/\zrG P m u=true:=by
 induction hl with
 | refl=>exact⟨n,Nat.le_refl _,h⟩
 | step _ hc ih=>
  obtain⟨m,h1,h2⟩:=ih
  obtain⟨k,h3,h4⟩:=tree_part h2 hc
  exact⟨k,by omega,h4⟩
theorem tree_no {P:Program}(n:Nat):∀(u v:TypeId),zrG P n u=true->v∈P.partsOf u->Leads P v u->False:=by
 induction n using Nat.strongRecOn with
 | _ n ih=>
  intro u v h hv hl
  obtain⟨k,h1,h2⟩:=tree_part h hv
  obtain⟨m,h3,h4⟩:=zyc h2 hl
  exact ih m (by omega) u v h4 hv hl
theorem loops_none {P:Program}{n:Nat}{t:TypeId}(h:zrG P n t=true):P.loopsFrom t=false:=by
 cases hl:P.loopsFrom t with
 | false=>rfl
 | true=>
  unfold Program.loopsFrom at hl
  obtain⟨u,hu,hl⟩:=List.any_eq_true.1 hl
  obtain⟨v,hv,hl⟩:=List.any_eq_true.1 hl
  have hc:u∈P.book v:=by simpa using hl
  obtain⟨m,_,h2⟩:=zyc h (zyY hu)
  exact(tree_no m u v h2 hv (zyY hc)).elim
theorem any_loops {P:Program}{ts:List TypeId}(h:ts.all (zrG P 24)=true):ts.any (fun t=>P.loopsFrom t)=false:=by
 rw[List.any_eq_false];intro t ht;rw[loops_none (List.all_eq_true.1 h t ht)];simp
inductive Note where
 | l (lv:List Nat) (dd:List (Nat × Nat))
 | d (rs:List (Nat × Nat)) (nd:List (Nat × List Nat))
 | dd (lin:List (Nat × List Nat)) (cl:List Nat)
def rg:List (Nat × Nat)->List Nat
 | []=>[]
 | (a,n)::r=>List.range' a n++rg r
def ndOf (i:Nat):List (Nat × List Nat)->List Nat
 | []=>[]
 | (j,l)::r=>match Nat.beq i j with
  | true=>l
  | false=>ndOf i r
def clo (acc:List Nat):List (List Nat)->List Nat
 | []=>acc
 | d::r=>clo (acc++[d.foldl (fun m j=>Nat.lor m (Nat.lor (2 ^ j) (acc.getD j 0))) 0]) r
def zxB:AC->List Note->AC × List Note
 | .draw l d _ _,.d rs nd::ns=>(.draw l d ((rg rs).map fun i=>(i,ndOf i nd)) (clo [] d),ns)
 | .draw l d _ _,.dd lin cl::ns=>(.draw l d lin cl,ns)
 | .seq a b,ns=>match zxB a ns with
  | (a',n1)=>match zxB b n1 with
   | (b',n2)=>(.seq a' b',n2)
 | .cond c a b,ns=>match zxB a ns with
  | (a',n1)=>match zxB b n1 with
   | (b',n2)=>(.cond c a' b',n2)
 | .block id a,ns=>match zxB a ns with
  | (a',n1)=>(.block id a',n1)
 | .loop _ _ a,.l lv dd::ns=>match zxB a ns with
  | (a',n1)=>(.loop lv (rg dd) a',n1)
 | .rangeF g ps a b,ns=>match zxB a ns with
  | (a',n1)=>match zxB b n1 with
   | (b',n2)=>(.rangeF g ps a' b',n2)
 | c,ns=>(c,ns)
theorem zfF:∀(c:AC) (ns:List Note),(zxB c ns).1.norm=c.norm
 | .skip,_|.ops _,_|.exit _,_|.ret,_=>by simp[zxB]
 | .draw l d _ _,ns=>by
  cases ns with
  | nil=>simp[zxB]
  | cons n ns=>cases n<;>simp[zxB,AC.norm]
 | .seq a b,ns=>by simp only[zxB,AC.norm,zfF a,zfF b]
 | .cond c a b,ns=>by simp only[zxB,AC.norm,zfF a,zfF b]
 | .block id a,ns=>by simp only[zxB,AC.norm,zfF a]
 | .rangeF g ps a b,ns=>by simp only[zxB,AC.norm,zfF a,zfF b]
 | .loop _ _ a,ns=>by
  cases ns with
  | nil=>simp[zxB]
  | cons n ns=>cases n<;>simp[zxB,AC.norm,zfF a]
def I.mark:I->I
 | .mkslice _ s n z p=>.mkslice true s n z p
 | .append _ s b z x y=>.append true s b z x y
 | .call _ f xs=>.call true f xs
 | i=>i
def AC.mark:AC->AC
 | .ops l=>.ops (l.map fun x=>{ x with i:=x.i.mark })
 | .draw l d p q=>.draw (l.map fun x=>{ x with i:=x.i.mark }) d p q
 | .seq a b=>.seq a.mark b.mark
 | .cond c a b=>.cond c a.mark b.mark
 | .block id a=>.block id a.mark
 | .loop p q a=>.loop p q a.mark
 | .rangeF g ps a b=>.rangeF g ps a.mark b.mark
 | c=>c
theorem I.norm_mark (i:I):i.mark.norm=i.norm:=by cases i<;>rfl
theorem AC.norm_mark:∀c:AC,c.mark.norm=c.norm
 | .skip|.exit _|.ret=>rfl
 | .ops l=>by simp[AC.mark,AC.norm,Ai.norm,Function.comp_def,I.norm_mark]
 | .draw l d _ _=>by simp[AC.mark,AC.norm,Ai.norm,Function.comp_def,I.norm_mark]
 | .seq a b=>by simp[AC.mark,AC.norm,norm_mark a,norm_mark b]
 | .cond c a b=>by simp[AC.mark,AC.norm,norm_mark a,norm_mark b]
 | .block _ a=>by simp[AC.mark,AC.norm,norm_mark a]
 | .loop _ _ a=>by simp[AC.mark,AC.norm,norm_mark a]
 | .rangeF g ps a b=>by simp only[AC.mark,AC.norm,norm_mark a,norm_mark b]
theorem compI_norm {P:Program}{o:Oper}{i:I}(h:zcD P o=some i):i.norm=i:=by
 unfold zcD at h;split at h;all_goals(try(repeat' split at h))
 all_goals(simp only[Option.bind_eq_bind,Option.bind_eq_some_iff,Option.pure_def,Option.some.injEq,reduceCtorEq]at h)
 all_goals(try(repeat (obtain⟨_,h⟩:=h)))
 all_goals first
  | rfl
  | (subst h;rfl)
  | (cases h;done)
  | (split at h<;>(try simp only[Option.bind_eq_bind,Option.bind_eq_some_iff,Option.pure_def,Option.some.injEq,reduceCtorEq]at h)<;>(try(repeat (obtain⟨_,h⟩:=h)))<;>first|rfl|(subst h;rfl))
theorem compO_norm {P:Program}{ops:Array Oper}{o:Oper}{x:Ai}(h:zwL P ops o=some x):x.norm=x:=by
 simp only[zwL,Option.bind_eq_bind,Option.bind_eq_some_iff]at h;obtain⟨i,hi,h⟩:=h;have hn:=compI_norm hi;split at h
 ·simp only[Option.pure_def,Option.some.injEq]at h;subst h;simp[Ai.norm,hn]
 ·simp only[Option.bind_eq_some_iff,Option.pure_def,Option.some.injEq]at h;obtain⟨_,_,_,_,h⟩:=h;subst h;simp[Ai.norm,hn]
theorem zwa {P:Program}{ops:Array Oper}:∀ {l:List Oper} {xs:List Ai},l.mapM (zwL P ops)=some xs->xs.map Ai.norm=xs
 | [],xs,h=>by simp at h;subst h;rfl
 | o::l,xs,h=>by
  simp only[List.mapM_cons,Option.bind_eq_bind,Option.bind_eq_some_iff,Option.pure_def,Option.some.injEq]at h;obtain⟨x,hx,ys,hy,h⟩:=h;subst h;simp[compO_norm hx,zwa hy]
theorem comp_norm {P:Program}:∀ {c:Code} {a:AC},znI P c=some a->a.norm=a:=by
 intro c;induction c with
 | skip=>intro a h;simp only[znI,Option.some.injEq]at h;subst h;rfl
 | region _ ops d=>
  intro a h
  cases d
  ·simp only[znI,Option.bind_eq_bind,Option.bind_eq_some_iff,Option.pure_def,Option.some.injEq]at h
   obtain⟨xs,hx,h⟩:=h
   subst h
   simp[AC.norm,zwa hx]
  ·simp only[znI,Option.bind_eq_bind,Option.bind_eq_some_iff,Option.pure_def,Option.some.injEq]at h
   obtain⟨xs,hx,h⟩:=h
   subst h
   simp[AC.norm,zwa hx]
 | seq a b ih1 ih2=>
  intro x h
  simp only[znI,Option.bind_eq_bind,Option.bind_eq_some_iff,Option.pure_def,Option.some.injEq]at h
  obtain⟨y,hy,z,hz,h⟩:=h
  subst h
  simp[AC.norm,ih1 hy,ih2 hz]
 | cond c a b ih1 ih2=>
  intro x h
  simp only[znI,Option.bind_eq_bind,Option.bind_eq_some_iff,Option.pure_def,Option.some.injEq]at h
  obtain⟨_,_,y,hy,z,hz,h⟩:=h
  subst h
  simp[AC.norm,ih1 hy,ih2 hz]
 | block id a ih=>
  intro x h
  simp only[znI,Option.bind_eq_bind,Option.bind_eq_some_iff,Option.pure_def,Option.some.injEq]at h
  obtain⟨y,hy,h⟩:=h
  subst h
  simp[AC.norm,ih hy]
 | loop a ih=>
  intro x h
  simp only[znI,Option.bind_eq_bind,Option.bind_eq_some_iff,Option.pure_def,Option.some.injEq]at h
  obtain⟨y,hy,h⟩:=h
  subst h
  simp[AC.norm,ih hy]
 | rangeFunc g ps ca cb iha ihb=>
  intro x h
  simp only[znI,Option.bind_eq_bind,Option.bind_eq_some_iff,Option.pure_def,Option.some.injEq]at h
  obtain⟨_,_,y,hy,z,hz,h⟩:=h
  subst h
  simp[AC.norm,iha hy,ihb hz]
 | exit id=>intro a h;simp only[znI,Option.some.injEq]at h;subst h;rfl
 | ret=>intro a h;simp only[znI,Option.some.injEq]at h;subst h;rfl
 | _=>intro a h;simp[znI]at h
def zyZ (P:Program) (fn:Func):AC:=((fn.body.bind (znI P)).getD .skip)
def formOf (P:Program) (fn:Func) (na:Nat) (ns:List Note):AF:=⟨na,fn.ntmps,(fn.results.toList.mapM (riOk P)).getD [],(zxB (zyZ P fn) ns).1⟩
def zAd (P:Program) (fn:Func) (na:Nat) (ns:List Note):AF:=⟨na,fn.ntmps,(fn.results.toList.mapM (riOk P)).getD [],(zxB (zyZ P fn).mark ns).1⟩
def fnOk (P:Program) (fn:Func) (F:AF):Bool:=
 (fn.body.bind (znI P)).isSome&&(F.body.ok F.ntmps&&(Nat.ble F.nargs F.ntmps&&((fn.results.toList.mapM (riOk P)).isSome&&P.follows .mixedOrders)))
theorem isF_gen {P : Program} {f : FuncId} {fn : Func} {F : AF} (h1 : P.funcs[f]? = some fn) (h2 : fn.name ≠ "runtime.NumGoroutine") (hb : F.body.norm = (zyZ P fn).norm) (hn : F.ntmps = fn.ntmps) (hr : F.res = (fn.results.toList.mapM (riOk P)).getD [])
  (h3:fnOk P fn F=true):isF P f F:=by
 simp only[fnOk,Bool.and_eq_true,Nat.ble_eq]at h3;obtain⟨c1,c2,c3,c4,c5⟩:=h3;obtain⟨a,ha⟩:=Option.isSome_iff_exists.1 c1;obtain⟨r,hr'⟩:=Option.isSome_iff_exists.1 c4;have hb2:zyZ P fn=a:=by rw[zyZ,ha];rfl
 simp only[Option.bind_eq_some_iff]at ha;obtain⟨c,hc,hca⟩:=ha;exact⟨fn,c,h1,h2,hc,by rw[hca,hb,hb2,comp_norm hca],c2,c3,by rw[hr,hr'];rfl,hn.symm,c5⟩
theorem isF_form {P : Program} {f : FuncId} {fn : Func} {na : Nat} {ns : List Note} (h1 : P.funcs[f]? = some fn) (h2 : fn.name ≠ "runtime.NumGoroutine") (h3 : fnOk P fn (formOf P fn na ns) = true) : isFn P f (formOf P fn na ns) na :=
 ⟨isF_gen h1 h2 (zfF _ _) rfl rfl h3,rfl⟩
theorem isF_formM {P : Program} {f : FuncId} {fn : Func} {na : Nat} {ns : List Note} (h1 : P.funcs[f]? = some fn) (h2 : fn.name ≠ "runtime.NumGoroutine") (h3 : fnOk P fn (zAd P fn na ns) = true) : isFn P f (zAd P fn na ns) na :=
 ⟨isF_gen h1 h2 ((zfF _ _).trans (AC.norm_mark _)) rfl rfl h3,rfl⟩
abbrev Goes (F:AF) (xs:List AV) (P:Program) (σ:List AObj) (Z:Option (List AV)->List AObj->Prop):Prop:=
 awp P F.body (AtEnd fun fr s=>Z (zuw fr s F.res) s) (zlo 0 xs) σ
def ForF (P₀:Program) (f:FuncId) (na:Nat) (G:AF->Prop):Prop:=∃F,isFn P₀ f F na/\G F
abbrev ZT:=Option (List AV)->List AObj->Prop
theorem zg {P : Program} {f : FuncId} {fn : Func} {na : Nat} {G : AF → Prop} (ns : List Note) (h1 : P.funcs[f]? = some fn) (h2 : fn.name ≠ "runtime.NumGoroutine" := by decide +kernel) (h3 : fnOk P fn (formOf P fn na ns) = true := by kernel_rfl) (h4 : G (formOf P fn na ns) := by intros; rename_i h; exact cast (by kernel_rfl) h) : ForF P f na G :=
 ⟨_,isF_form h1 h2 h3,h4⟩
theorem znk {P : Program} {f : FuncId} {fn : Func} {na : Nat} {G : AF → Prop} (ns : List Note) (h1 : P.funcs[f]? = some fn) (h2 : fn.name ≠ "runtime.NumGoroutine" := by decide +kernel) (h3 : fnOk P fn (zAd P fn na ns) = true := by kernel_rfl) (h4 : G (zAd P fn na ns) := by intros; rename_i h; exact cast (by kernel_rfl) h) : ForF P f na G :=
 ⟨_,isF_formM h1 h2 h3,h4⟩
theorem ForF.is {P:Program}{f:FuncId}{na:Nat}{G:AF->Prop}(h:ForF P f na G):isFn P f (Classical.choose h) na:=(Classical.choose_spec h).1
theorem ForF.goes {P:Program}{f:FuncId}{na:Nat}{G:AF->Prop}(h:ForF P f na G):G (Classical.choose h):=(Classical.choose_spec h).2
abbrev F0 (P₀:Program) (f:FuncId) (S:Program->LO->ZT->Prop):Prop:=ForF P₀ f 0 fun F=>∀ {P:Program} {σ:LO} {Z:ZT},S P σ Z->Goes F [] P σ Z
abbrev F1 (P₀:Program) (f:FuncId) (S:Program->AV->LO->ZT->Prop):Prop:=ForF P₀ f 1 fun F=>∀ {P:Program} {x0:AV} {σ:LO} {Z:ZT},S P x0 σ Z->Goes F [x0] P σ Z
abbrev F2 (P₀:Program) (f:FuncId) (S:Program->AV->AV->LO->ZT->Prop):Prop:=ForF P₀ f 2 fun F=>∀ {P:Program} {x0 x1:AV} {σ:LO} {Z:ZT},S P x0 x1 σ Z->Goes F [x0,x1] P σ Z
abbrev F3 (P₀:Program) (f:FuncId) (S:Program->AV->AV->AV->LO->ZT->Prop):Prop:=ForF P₀ f 3 fun F=>∀ {P:Program} {x0 x1 x2:AV} {σ:LO} {Z:ZT},S P x0 x1 x2 σ Z->Goes F [x0,x1,x2] P σ Z
abbrev F4 (P₀:Program) (f:FuncId) (S:Program->AV->AV->AV->AV->LO->ZT->Prop):Prop:=ForF P₀ f 4 fun F=>∀ {P:Program} {x0 x1 x2 x3:AV} {σ:LO} {Z:ZT},S P x0 x1 x2 x3 σ Z->Goes F [x0,x1,x2,x3] P σ Z
abbrev F5 (P₀:Program) (f:FuncId) (S:Program->AV->AV->AV->AV->AV->LO->ZT->Prop):Prop:=ForF P₀ f 5 fun F=>∀ {P:Program} {x0 x1 x2 x3 x4:AV} {σ:LO} {Z:ZT},S P x0 x1 x2 x3 x4 σ Z->Goes F [x0,x1,x2,x3,x4] P σ Z
theorem acE0 {P:Program}{f:FuncId}{S:Program->LO->ZT->Prop}(e:F0 P f S){σ:LO}{K:AV->LO->Prop}(h:zhp σ.length σ->S P  σ (Ends σ.length K)):ACall P f [] σ K:=zlI e.is rfl fun hl _=>e.goes (h hl)
theorem zeA {P:Program}{f:FuncId}{S:Program->AV->LO->ZT->Prop}(e:F1 P f S){x0:AV}{σ:LO}{K:AV->LO->Prop}(h:zhp σ.length σ->S P x0 σ (Ends σ.length K)):ACall P f [x0] σ K:=zlI e.is rfl fun hl _=>e.goes (h hl)
theorem zeq {P:Program}{f:FuncId}{S:Program->AV->AV->LO->ZT->Prop}(e:F2 P f S){x0 x1:AV}{σ:LO}{K:AV->LO->Prop}(h:zhp σ.length σ->S P x0 x1 σ (Ends σ.length K)):ACall P f [x0,x1] σ K:=zlI e.is rfl fun hl _=>e.goes (h hl)
theorem acE3 {P:Program}{f:FuncId}{S:Program->AV->AV->AV->LO->ZT->Prop}(e:F3 P f S){x0 x1 x2:AV}{σ:LO}{K:AV->LO->Prop}(h:zhp σ.length σ->S P x0 x1 x2 σ (Ends σ.length K)):ACall P f [x0,x1,x2] σ K:=zlI e.is rfl fun hl _=>e.goes (h hl)
theorem acE4 {P:Program}{f:FuncId}{S:Program->AV->AV->AV->AV->LO->ZT->Prop}(e:F4 P f S){x0 x1 x2 x3:AV}{σ:LO}{K:AV->LO->Prop}(h:zhp σ.length σ->S P x0 x1 x2 x3 σ (Ends σ.length K)):ACall P f [x0,x1,x2,x3] σ K:=zlI e.is rfl fun hl _=>e.goes (h hl)
theorem acE5 {P:Program}{f:FuncId}{S:Program->AV->AV->AV->AV->AV->LO->ZT->Prop}(e:F5 P f S){x0 x1 x2 x3 x4:AV}{σ:LO}{K:AV->LO->Prop}(h:zhp σ.length σ->S P x0 x1 x2 x3 x4 σ (Ends σ.length K)):ACall P f [x0,x1,x2,x3,x4] σ K:=zlI e.is rfl fun hl _=>e.goes (h hl)
def I.zmark:I->I
 | .mv (.lit (.exact []))=>.nilc
 | i=>i
def AC.zmark:AC->AC
 | .ops l=>.ops (l.map fun x=>{ x with i:=x.i.zmark })
 | .draw l d p q=>.draw (l.map fun x=>{ x with i:=x.i.zmark }) d p q
 | .seq a b=>.seq a.zmark b.zmark
 | .cond c a b=>.cond c a.zmark b.zmark
 | .block id a=>.block id a.zmark
 | .loop p q a=>.loop p q a.zmark
 | .rangeF g ps a b=>.rangeF g ps a.zmark b.zmark
 | c=>c
theorem I.norm_zmark (i:I):i.zmark.norm=i.norm:=by
 unfold I.zmark;split<;>rfl
theorem AC.norm_zmark:∀c:AC,c.zmark.norm=c.norm
 | .skip|.exit _|.ret=>rfl
 | .ops l=>by simp[AC.zmark,AC.norm,Ai.norm,Function.comp_def,I.norm_zmark]
 | .draw l d _ _=>by simp[AC.zmark,AC.norm,Ai.norm,Function.comp_def,I.norm_zmark]
 | .seq a b=>by simp[AC.zmark,AC.norm,norm_zmark a,norm_zmark b]
 | .cond c a b=>by simp[AC.zmark,AC.norm,norm_zmark a,norm_zmark b]
 | .block _ a=>by simp[AC.zmark,AC.norm,norm_zmark a]
 | .loop _ _ a=>by simp[AC.zmark,AC.norm,norm_zmark a]
 | .rangeF g ps a b=>by simp only[AC.zmark,AC.norm,norm_zmark a,norm_zmark b]
def formZOf (P:Program) (fn:Func) (na:Nat) (ns:List Note):AF:=⟨na,fn.ntmps,(fn.results.toList.mapM (riOk P)).getD [],(zxB (zyZ P fn).zmark ns).1⟩
theorem formZ_of {P : Program} {f : FuncId} {fn : Func} {na : Nat} {G : AF → Prop} (ns : List Note) (h1 : P.funcs[f]? = some fn) (h2 : fn.name ≠ "runtime.NumGoroutine") (h3 : fnOk P fn (formZOf P fn na ns) = true) (h4 : G (formZOf P fn na ns)) : ForF P f na G :=
 ⟨_,⟨isF_gen h1 h2 ((zfF _ _).trans (AC.norm_zmark _)) rfl rfl h3,rfl⟩,h4⟩
end Go.AW
