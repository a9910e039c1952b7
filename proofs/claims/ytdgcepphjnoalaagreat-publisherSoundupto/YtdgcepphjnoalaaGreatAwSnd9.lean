/- What an operation does, against the model: maps; is a slice nil. -/
import Derived.Test.YtdgcepphjnoalaaGreatAwSnd5
import Derived.MapKept
import Derived.WideKeyRuns
import Derived.WalkSpells
import Derived.DeepKeys3
import Derived.Laws.IdiomRangeMap
import Derived.Orders
import Derived.Deep.LoopGhost
import Derived.CallsIn
import Derived.OrdersIn
import Derived.Test.YtdgcepphjnoalaaGreatAwBase
set_option linter.all false
namespace Go.AW
open Go.MapKept
section
variable {P:Program} {o:Oper} {i:I} {fr:zW} {σ:List AObj} {K:KT} {L:Nat->Loc} {w:World} {a:Act}
theorem zuj {r:Nat}{es:Array MapEntry}{clock:Nat}(hb:w.heap[r]? = some (.map es clock)):(getObj r).run P w=.ok (.map es clock) w:=by
 simp[getObj,Sem.run,hb]
theorem zyr {r:Nat}{es:Array MapEntry}{clock:Nat}(o:Obj)(hb:w.heap[r]? = some (.map es clock)):(setObj r o).run P w=.ok () { w with heap:=w.heap.setIfInBounds r o }:=by
 simp[setObj,Sem.run,hb]
theorem zwh {t:TypeId}{kk:KK}(h:kkOf P t=some kk) :
  (kk=.int/\∃k,P.underlying t=some (.int k))∨(kk=.str/\P.underlying t=some .string)∨(∃n,kk=.ints n/\(zxN P t=some n∨arrB P t=some n)):=by
 unfold kkOf at h;split at h
 ·rename_i k hk;cases h;exact .inl ⟨rfl,k,hk⟩
 ·rename_i hk;cases h;exact .inr (.inl ⟨rfl,hk⟩)
 ·rename_i fs hk;simp only[Option.map_eq_some_iff]at h;obtain⟨n,hn,rfl⟩:=h;exact .inr (.inr ⟨n,rfl,.inl hn⟩)
 ·simp only[Option.map_eq_some_iff]at h;obtain⟨n,hn,rfl⟩:=h;exact .inr (.inr ⟨n,rfl,.inr hn⟩)
 ·cases h
theorem zxg {t:TypeId}{n:Nat}(h:arrB P t=some n):∃e q i,P.underlying t=some (.array n e)/\P.underlying e=some (.int q)/\P.cellsOf e=1/\P.info? e=some i:=by
 unfold arrB at h;split at h
 ·rename_i n' e ht;split at h
  ·rename_i q hq;split at h
   ·rename_i hc;cases h;obtain⟨i,hi⟩:=info_of_underlying hq;exact⟨e,q,i,ht,hq,hc,hi⟩
   ·cases h
  ·cases h
 ·cases h
def wideB (P:Program) (t:TypeId):Bool:=(zxN P t).isSome || (arrB P t).isSome
theorem zoj {t:TypeId}(h:wideB P t=true):(∃fs,P.underlying t=some (.struct fs))∨∃n e,P.underlying t=some (.array n e):=by
 simp only[wideB,Bool.or_eq_true,Option.isSome_iff_exists]at h;rcases h with⟨n,hn⟩|⟨n,hn⟩
 ·obtain⟨fs,_,hu1,_⟩:=zpK hn;exact .inl ⟨fs,hu1⟩
 ·obtain⟨e,_,_,hu1,_⟩:=zxg hn;exact .inr ⟨n,e,hu1⟩
theorem wide_of {t:TypeId}{n:Nat}(h:zxN P t=some n∨arrB P t=some n):wideB P t=true:=by
 rcases h with h|h<;>simp[wideB,h]
theorem zAa {e:TypeId}{q:IntKind}(he:P.underlying e=some (.int q)){us:List Value}{s:Nat}{k:IntKind}{a:Int}(hu:us[s]? = some (.int k a)):(part e us.toArray s).run P w=.ok (.int k a) w:=by
 have hag:zvi P e=some false:=by simp[zvi,he]
 simp[part,zgq hag,hu]
theorem zAk {us:List Value}{x:AV}{xs:List AV}{s:Nat}{k:IntKind}{a:Int}(hx:RVs w L σ (.d (.int k a)::xs) (us.drop s)):us[s]? = some (.int k a)/\RVs w L σ xs (us.drop (s+1)):=by
 have h1:=hx.1;simp at h1;have h2:us[s]? = some (us[s]'(by omega)):=List.getElem?_eq_getElem _;have:=hx.2 0 _ (us[s]'(by omega)) rfl (by simp[List.getElem?_drop,h2]);exact⟨by rw[h2,this.int_inv],by simp;omega,fun j c u hc hu=>hx.2 (j+1) c u hc (by rw[List.getElem?_drop]at hu ⊢;rw[← hu];congr 1;omega)⟩
theorem zum (d:Nat){e:TypeId}{q:IntKind}(he:P.underlying e=some (.int q)):∀(n s:Nat) (xs ys:List AV) (us vs:List Value) (r:Bool),xs.length=n->RVs w L σ xs (us.drop s)->RVs w L σ ys (vs.drop s)->zce xs ys=some r →
  (Op.eqItems (d+1) e 1 us.toArray vs.toArray (List.range' s n)).run P w=.ok r w
 | 0,s,xs,ys,us,vs,r,hl,_,_,hr=>by
  have:xs=[]:=by simpa using hl
  subst this;cases ys with
  | nil=>simp[zce]at hr;subst hr;simp[Op.eqItems]
  | cons y ys=>simp[zce]at hr
 | n+1,s,xs,ys,us,vs,r,hl,hx,hy,hr=>by
  cases xs with
  | nil=>simp at hl
  | cons x xs=>
  cases ys with
  | nil=>simp[zce]at hr
  | cons y ys=>
  obtain⟨k,a,b,r',rfl,rfl,hr',rfl⟩:=ziv hr;obtain⟨hu,hx'⟩:=zAk (x:=.undef) hx;obtain⟨hv,hy'⟩:=zAk (x:=.undef) hy;have ih:=zum d he n (s+1) xs ys us vs r' (by simpa using hl) hx' hy' hr';simp only[List.range'_succ,Op.eqItems,Nat.mul_one,Sem.run_bind,zAa (P:=P) (w:=w) he hu,zAa (P:=P) (w:=w) he hv,Result.andThen_ok,run_equalIn_int w d e k q a b he];cases hab:a==b
  ·simp
  ·simpa using ih
theorem zrR (em:Bool)(d:Nat){e:TypeId}{q:IntKind}{i:TypeInfo}(he:P.underlying e=some (.int q))(hi:P.info? e=some i)(hc:P.cellsOf e=1){us:List Value}:∀(n s:Nat) (xs:List AV),xs.length=n->RVs w L σ xs (us.drop s)->(zce xs xs).isSome=true →
  (forIn (List.range' s n) PUnit.unit fun i _=>(do
    Instr.checkKey em (d+1) e (← part e us.toArray (i*(← sizeOf e)))
    pure (ForInStep.yield PUnit.unit):Sem (ForInStep PUnit))).run P w=.ok PUnit.unit w
 | 0,s,xs,_,_,_=>by simp
 | n+1,s,xs,hl,hx,hs=>by
  cases xs with
  | nil=>simp at hl
  | cons x xs=>
  obtain⟨r,hr⟩:=Option.isSome_iff_exists.1 hs;obtain⟨k,a,b,r',rfl,e2,hr',_⟩:=ziv hr;obtain⟨hu,hx'⟩:=zAk (x:=.undef) hx;have ih:=zrR em d he hi hc (us:=us) n (s+1) xs (by simpa using hl) hx' (by rw[hr'];rfl);have h1:(Instr.checkKey em (d+1) e (.int k a)).run P w=.ok () w:=by simp[Instr.checkKey,run_underlying he]
  simp only[List.range'_succ,List.forIn_cons,Sem.run_bind,run_sizeOf w hi,hc,Nat.mul_one,Result.andThen_ok,zAa (P:=P) (w:=w) he hu,h1,Sem.run_pure];simpa using ih
theorem zqp (em : Bool) (d : Nat) {fields : List Field} {us : List Value} : ∀ (l : List Field) (s : Nat) (xs : List AV), (∀ (k : Nat) f, l[k]? = some f → f.name ≠ "_" ∧ f.offset = s + k ∧ ∃ q, P.underlying f.type = some (.int q)) →
  xs.length=l.length->RVs w L σ xs (us.drop s)->(zce xs xs).isSome=true →
  (forIn l PUnit.unit fun f _=>(do
    if f.name ≠ "_" then Instr.checkKey em (d + 1) f.type (← part f.type us.toArray f.offset)
    pure (ForInStep.yield PUnit.unit):Sem (ForInStep PUnit))).run P w=.ok PUnit.unit w
 | [],s,xs,_,hl,_,_=>by simp
 | f::l,s,xs,hf,hl,hx,he=>by
  cases xs with
  | nil=>simp at hl
  | cons x xs=>
  obtain⟨hn,ho,q,hq⟩:=hf 0 f rfl;obtain⟨r,hr⟩:=Option.isSome_iff_exists.1 he;obtain⟨k,a,b,r',rfl,e2,hr',_⟩:=ziv hr;have hu:us[s]? = some (.int k a):=by
   have h1:=hx.1;simp at h1;have h2:us[s]? = some (us[s]'(by omega)):=List.getElem?_eq_getElem _;have:=hx.2 0 _ (us[s]'(by omega)) rfl (by simp[List.getElem?_drop,h2]);rw[h2,this.int_inv]
  have hag:zvi P f.type=some false:=by simp[zvi,hq]
  have p1:(part f.type us.toArray f.offset).run P w=.ok (.int k a) w:=by simp[part,zgq hag,ho,hu]
  have ih:=zqp em d (fields:=fields) (us:=us) l (s+1) xs (fun j g hj=>by have:=hf (j+1) g hj;exact⟨this.1,by rw[this.2.1];omega,this.2.2⟩) (by simpa using hl)
   ⟨by have:=hx.1;simp at this ⊢;omega,fun j c u hc hu=>hx.2 (j+1) c u hc (by rw[List.getElem?_drop]at hu ⊢;rw[← hu];congr 1;omega)⟩ (by rw[hr'];rfl)
  have hc:(Instr.checkKey em (d+1) f.type (.int k a)).run P w=.ok () w:=by simp[Instr.checkKey,run_underlying hq]
  rw[List.forIn_cons];simp only[hn,ne_eq,not_false_eq_true,if_true,Sem.run_bind,p1,hc,Result.andThen_ok,Sem.run_pure];simpa [hn] using ih
theorem zon {t:TypeId}{kk:KK}(h:kkOf P t=some kk){k:AV}{v:Value}(hk:zgg kk k=true)(hv:RV w L σ k v)(em:Bool):(Instr.checkKey em 10000 t v).run P w=.ok () w:=by
 rcases zwh h with⟨rfl,q,hq⟩|⟨rfl,hq⟩|⟨n,rfl,hn⟩
 ·cases k<;>simp only[zgg,Bool.false_eq_true]at hk;rename_i x;cases x<;>simp only[zgg,Bool.false_eq_true]at hk;rw[hv.int_inv];change (Instr.checkKey em (9999+1) t _).run P w=_;unfold Instr.checkKey;simp[run_underlying hq]
 ·cases k<;>simp only[zgg,Bool.false_eq_true]at hk;rename_i x;cases x<;>simp only[zgg,Bool.false_eq_true]at hk;rw[hv.str_inv];change (Instr.checkKey em (9999+1) t _).run P w=_;unfold Instr.checkKey;simp[run_underlying hq]
 ·cases k<;>simp only[zgg,Bool.false_eq_true,Bool.and_eq_true,beq_iff_eq]at hk;rename_i xs;obtain⟨us,rfl,r1⟩:=hv.agg_inv;rcases hn with hn|hn;rotate_left
  ·obtain⟨e,q,i,hu1,he,hc,hi⟩:=zxg hn;have:=zrR em 9998 he hi hc (us:=us) n 0 xs hk.1 (by simpa using r1) hk.2;change (Instr.checkKey em (9999+1) t _).run P w=_;rw[Instr.checkKey];simp only[Sem.run_bind,run_underlying hu1,Result.andThen_ok];simp only[Std.Legacy.Range.forIn_eq_forIn_range',Std.Legacy.Range.size,Nat.sub_zero,Nat.add_one_sub_one,Nat.div_one];simp only[Nat.reduceAdd]at this;rw[this];rfl
  obtain⟨fs,inf,hu1,hu2,hu3,hu4,hu5,hu6,hu7⟩:=zpK hn;have:=zqp em 9998 (fields:=fs.toList) fs.toList 0 xs (us:=us) (fun k f hk=>by have:=hu7 k f (by simpa using hk);exact⟨this.1,by rw[this.2.1];omega,this.2.2⟩) (by rw[hk.1,← hu4];simp) (by simpa using r1) hk.2;change (Instr.checkKey em (9999+1) t _).run P w=_;unfold Instr.checkKey;simp only[Sem.run_bind,run_underlying hu1,Result.andThen_ok];simp at this ⊢;rw[this];rfl
theorem keyEq_val {kk:KK}{x y:AV}{r:Bool}{u v:Value}(h:ziu kk x y=some r)(hu:RV w L σ x u)(hv:RV w L σ y v)(hr:r=true):u=v:=by
 subst hr;cases kk with
 | int=>
  cases x<;>try(simp[ziu]at h;done)
  cases y<;>try(simp[ziu]at h;done)
  rename_i x y
  cases x<;>cases y<;>simp[ziu]at h
  obtain⟨rfl,rfl⟩:=h
  rw[hu.int_inv,hv.int_inv]
 | str=>
  cases x<;>try(simp[ziu]at h;done)
  cases y<;>try(simp[ziu]at h;done)
  rename_i x y
  cases x<;>cases y<;>simp[ziu]at h
  subst h
  rw[hu.str_inv,hv.str_inv]
 | ints n=>
  cases x<;>try(simp[ziu]at h;done)
  cases y<;>try(simp[ziu]at h;done)
  rename_i xs ys
  simp only[ziu,Option.ite_none_right_eq_some]at h
  obtain⟨us,rfl,r1⟩:=hu.agg_inv
  obtain⟨vs,rfl,r2⟩:=hv.agg_inv
  obtain⟨hln,h⟩:=h
  clear hln
  have:us=vs:=by
   clear hu hv;induction xs generalizing ys us vs with
   | nil=>
    cases ys with
    | nil=>have h1:=r1.1;have h2:=r2.1;cases us<;>cases vs<;>simp at h1 h2 ⊢
    | cons y ys=>simp[zce]at h
   | cons x xs ih=>
    cases ys with
    | nil=>simp[zce]at h
    | cons y ys=>
    obtain⟨k,a,b,r',rfl,rfl,hr',e⟩:=ziv h
    cases us with
    | nil=>have:=r1.1;simp at this
    | cons u us=>
    cases vs with
    | nil=>have:=r2.1;simp at this
    | cons v vs=>
    have e1:=(r1.2 0 _ u rfl rfl).int_inv
    have e2:=(r2.2 0 _ v rfl rfl).int_inv
    have e':a=b/\r'=true:=by
     have:=e.symm;simpa using this
    rw[e'.2]at hr'
    rw[e1,e2,e'.1,ih ys us ⟨by have:=r1.1;simpa using this,fun i c v hc hv=>r1.2 (i+1) c v hc hv⟩ vs ⟨by have:=r2.1;simpa using this,fun i c v hc hv=>r2.2 (i+1) c v hc hv⟩ hr']
  rw[this]
theorem ztX (n:Nat):∀(xs:List AV) (us:List Value),RVs w L σ xs us->(zce xs xs).isSome=true->((us.zip us).all fun(x,y)=>Instr.sameBits n x y)=true
 | [],us,h,_=>by have:=h.1;cases us<;>simp_all
 | x::xs,us,h,he=>by
  obtain⟨r,hr⟩:=Option.isSome_iff_exists.1 he;obtain⟨k,a,b,r',rfl,e2,hr',_⟩:=ziv hr;cases us with
  | nil=>have:=h.1;simp at this
  | cons u us=>
  have e1:=(h.2 0 _ u rfl rfl).int_inv;subst e1;have ih:=ztX n xs us ⟨by have:=h.1;simpa using this,fun i c v hc hv=>h.2 (i+1) c v hc hv⟩ (by rw[hr'];rfl);simp only[List.zip_cons_cons,List.all_cons,ih,Bool.and_true];cases n<;>simp[Instr.sameBits]
theorem run_stays {kk:KK}{x:AV}{u:Value}(hx:zgg kk x=true)(hu:RV w L σ x u):(Instr.keyThatStays u u).run P w=.ok u w:=by
 have:Instr.sameBits 10000 u u=true:=by
  cases kk with
  | int=>
   cases x<;>simp only[zgg,Bool.false_eq_true]at hx
   rename_i x
   cases x<;>simp only[zgg,Bool.false_eq_true]at hx
   rw[hu.int_inv];simp[Instr.sameBits]
  | str=>
   cases x<;>simp only[zgg,Bool.false_eq_true]at hx
   rename_i x
   cases x<;>simp only[zgg,Bool.false_eq_true]at hx
   rw[hu.str_inv]
   show(_==_)=true
   simp[bytes_beq]
  | ints n=>
   cases x<;>simp only[zgg,Bool.false_eq_true,Bool.and_eq_true]at hx
   obtain⟨us,rfl,r1⟩:=hu.agg_inv
   have:=ztX 9999 _ us r1 hx.2
   simp only[Instr.sameBits,beq_self_eq_true,Bool.true_and]
   simpa using this
 simp[Instr.keyThatStays,this]
theorem zjO {t:TypeId}{kk:KK}(h:kkOf P t=some kk){k:AV}{v:Value}(hv:RV w L σ k v):∀(es:List (AV × AV)) (ms:List MapEntry) (i:Nat) {r:Option (Nat × AV)},ms.length=es.length →
  (∀(j:Nat) e m,es[j]? = some e->ms[j]? = some m->RE w L σ e m)->zoD kk k es i=some r →
  match r with
  | none=>(∃d,P.underlying t=some d/\Instr.findNow d v ms i=some none)∨wideB P t=true/\(Instr.findAsking t v ms i).run P w=.ok none w
  | some (p,x)=>∃j e m,p=i+j/\es[j]? = some e/\ms[j]? = some m/\e.2=x/\m.key=v ∧
    ((∃d,P.underlying t=some d/\Instr.findNow d v ms i=some (some (p,m.val)))∨wideB P t=true/\(Instr.findAsking t v ms i).run P w=.ok (some (p,m.val)) w)
 | [],ms,i,r,hl,_,hr=>by
  have:ms=[]:=by simpa using hl
  subst this;simp only[zoD,Option.some.injEq]at hr;subst hr;rcases zwh h with⟨rfl,q,hq⟩|⟨rfl,hq⟩|⟨n,rfl,hn⟩
  ·exact .inl ⟨_,hq,rfl⟩
  ·exact .inl ⟨_,hq,rfl⟩
  ·exact .inr ⟨wide_of hn,by simp[Instr.findAsking]⟩
 | e::es,ms,i,r,hl,hre,hr=>by
  cases ms with
  | nil=>simp at hl
  | cons m ms=>
  have hk:=hre 0 e m rfl rfl;simp only[zoD]at hr;have one:∀ {b},ziu kk k e.1=some b->(∃d,P.underlying t=some d/\Instr.sameNow d v m.key=some b)∨wideB P t=true/\(Op.equal t v m.key).run P w=.ok b w:=fun{b} hb=>by
   rcases zwh h with⟨rfl,q,hq⟩|⟨rfl,hq⟩|⟨n,rfl,hn⟩
   ·left;refine⟨_,hq,?_⟩;cases k<;>try(simp[ziu]at hb;done)
    generalize hE:e.1=y at hb hk;cases y<;>try(simp[ziu]at hb;done)
    rename_i x y;cases x<;>cases y<;>simp[ziu]at hb;obtain⟨e1,rfl⟩:=hb;have h1:=hk.1;rw[hE]at h1;rw[hv.int_inv,h1.int_inv,e1];simp[Instr.sameNow]
   ·left;refine⟨_,hq,?_⟩;cases k<;>try(simp[ziu]at hb;done)
    generalize hE:e.1=y at hb hk;cases y<;>try(simp[ziu]at hb;done)
    rename_i x y;cases x<;>cases y<;>simp[ziu]at hb;have h1:=hk.1;rw[hE]at h1;rw[hv.str_inv,h1.str_inv];rename_i s t;simp only[Instr.sameNow,← hb,Option.some.injEq];rw[Bool.eq_iff_iff,bytes_beq];simp
   ·right;refine⟨wide_of hn,?_⟩;cases k<;>try(simp[ziu]at hb;done)
    generalize hE:e.1=y at hb hk;cases y<;>try(simp[ziu]at hb;done)
    rename_i xs ys;simp only[ziu,Option.ite_none_right_eq_some]at hb;have h1:=hk.1;rw[hE]at h1;obtain⟨us,e1,r1⟩:=hv.agg_inv;obtain⟨vs,e2,r2⟩:=h1.agg_inv;rcases hn with hn|hn;rotate_left
    ·obtain⟨e',q,i,hu1,he,hc,hi⟩:=zxg hn;rw[e1,e2];show(Op.equalIn (9999+1) t (.agg us.toArray) (.agg vs.toArray)).run P w=.ok b w;rw[run_equalIn_array w 9999 us.toArray vs.toArray hu1 hi,hc,List.range_eq_range'];exact zum 9998 he n 0 xs ys us vs b hb.1 (by simpa using r1) (by simpa using r2) hb.2
    obtain⟨fs,inf,hu1,hu2,hu3,hu4,hu5,hu6,hu7⟩:=zpK hn;have hfo:P.fieldsOf t=fs:=by simp[Program.fieldsOf,hu1]
    rw[e1,e2];show(Op.equalIn 10000 t (.agg us.toArray) (.agg vs.toArray)).run P w=.ok b w;rw[run_equalIn_agg w 9999 t _ _ (by rw[hfo];exact hu1) hu2,hfo];exact znm 9998 fs.toList 0 xs ys us vs b (fun k f hk=>by have:=hu7 k f (by simpa using hk);exact⟨this.1,by rw[this.2.1];omega,this.2.2⟩) (by rw[hb.1,← hu4];simp) (by simpa using r1) (by simpa using r2) hb.2
  split at hr
  ·rename_i hb;cases hr;refine⟨0,e,m,rfl,rfl,rfl,rfl,(keyEq_val hb hv hk.1 rfl).symm,?_⟩;rcases one hb with⟨d,hd,h1⟩|⟨hs,h1⟩
   ·exact .inl ⟨d,hd,by simp[Instr.findNow,h1]⟩
   ·exact .inr ⟨hs,by simp[Instr.findAsking,h1]⟩
  ·rename_i hb;have ih:=zjO h hv es ms (i+1) (r:=r) (by simpa using hl) (fun j e m he hm=>hre (j+1) e m he hm) hr;have h0:=one hb;cases r with
   | none=>
    dsimp only at ih ⊢
    rcases h0 with⟨d,hd,h1⟩|⟨hs,h1⟩
    ·rcases ih with⟨d',hd',h2⟩|⟨hs,h2⟩
     ·rw[hd]at hd';cases hd'
      exact .inl ⟨d,hd,by simp[Instr.findNow,h1,h2]⟩
     ·exfalso
      rcases zoj hs with⟨fs,hu1⟩|⟨n,e',hu1⟩<;>(rw[hd]at hu1;cases hu1;simp[Instr.sameNow]at h1)
    ·rcases ih with⟨d',hd',h2⟩|⟨hs',h2⟩
     ·right
      refine⟨hs,?_⟩
      rcases zoj hs with⟨fs,hu1⟩|⟨n,e',hu1⟩<;>(rw[hd']at hu1;cases hu1;cases ms with
       | nil=>simp[Instr.findAsking,h1]
       | cons m' ms=>simp[Instr.findNow,Instr.sameNow]at h2)
     ·exact .inr ⟨hs,by simp[Instr.findAsking,h1,h2]⟩
   | some px=>
    obtain⟨p,x⟩:=px
    dsimp only at ih ⊢
    obtain⟨j,e',m',g1,g2,g3,g4,g5,g6⟩:=ih
    refine⟨j+1,e',m',by omega,g2,g3,g4,g5,?_⟩
    rcases h0 with⟨d,hd,h1⟩|⟨hs,h1⟩
    ·rcases g6 with⟨d',hd',h2⟩|⟨hs,h2⟩
     ·rw[hd]at hd';cases hd'
      exact .inl ⟨d,hd,by simp[Instr.findNow,h1,h2]⟩
     ·exfalso
      rcases zoj hs with⟨fs,hu1⟩|⟨n,e',hu1⟩<;>(rw[hd]at hu1;cases hu1;simp[Instr.sameNow]at h1)
    ·rcases g6 with⟨d',hd',h2⟩|⟨hs',h2⟩
     ·exfalso
      rcases zoj hs with⟨fs,hu1⟩|⟨n,e',hu1⟩<;>(rw[hd']at hu1;cases hu1;cases ms with
       | nil=>simp[Instr.findNow]at h2
       | cons m' ms=>simp[Instr.findNow,Instr.sameNow]at h2)
     ·exact .inr ⟨hs,by simp[Instr.findAsking,h1,h2]⟩
  ·cases hr
theorem run_findKey' {t:TypeId}{v:Value}{ms:List MapEntry}{r:Option (Nat × Value)}(h:(∃d,P.underlying t=some d/\Instr.findNow d v ms 0=some r)∨wideB P t=true/\(Instr.findAsking t v ms 0).run P w=.ok r w) :
  (Instr.findKey t v ms).run P w=.ok r w:=by
 rcases h with⟨d,hd,h⟩|⟨hs,h⟩
 ·exact run_findKey hd h
 ·rcases zoj hs with⟨fs,hu1⟩|⟨n,e',hu1⟩<;>rw[run_findKey_eq w (by rw[hu1]),h]
theorem map_block (S:Sim L σ w){id:Nat}{es:List (AV × AV)}(h:σ[id]? = some (.map es)) :
  ∃ms clock,w.heap[(L id).a.block]? = some (.map ms clock)/\ms.toList.length=es.length/\∀(j:Nat) e m,es[j]? = some e->ms.toList[j]? = some m->RE w L σ e m:=by
 obtain⟨ms,clock,h1,h2,h3,_⟩:=S.obj id _ h;exact⟨ms,clock,h1,by simpa using h2,fun j e m he hm=>h3 j e m he (by simpa using hm)⟩
theorem map_block' (S:Sim L σ w){id:Nat}{es:List (AV × AV)}(h:σ[id]? = some (.map es)) :
  ∃ms clock,w.heap[(L id).a.block]? = some (.map ms clock)/\ms.toList.length=es.length/\(∀(j:Nat) e m,es[j]? = some e->ms.toList[j]? = some m->RE w L σ e m)/\zmJ ms clock:=by
 obtain⟨ms,clock,h1,h2,h3,h4⟩:=S.obj id _ h;exact⟨ms,clock,h1,by simpa using h2,fun j e m he hm=>h3 j e m he (by simpa using hm),h4⟩
theorem zzN {ms:Array MapEntry}{clock p:Nat}{f:MapEntry->MapEntry}(hf:∀e,(f e).born=e.born)(h:zmJ ms clock):zmJ (ms.modify p f) clock:=by
 have e:(ms.modify p f).toList.map (·.born)=ms.toList.map (·.born):=by
  apply List.ext_getElem?;intro i;simp only[List.getElem?_map,Array.getElem?_toList,Array.getElem?_modify];split
  ·cases ms[i]? <;> simp[hf]
  ·rfl
 refine⟨by rw[e];exact h.1,fun x hx=>?_⟩;have:x.born∈(ms.modify p f).toList.map (·.born):=List.mem_map.2 ⟨x,hx,rfl⟩;rw[e]at this;obtain⟨y,hy,e2⟩:=List.mem_map.1 this;rw[← e2];exact h.2 y hy
theorem stamps_push {ms:Array MapEntry}{clock:Nat}{k v:Value}(h:zmJ ms clock):zmJ (ms.push { key:=k,val:=v,born:=clock }) (clock+1):=by
 refine⟨?_,fun x hx=>?_⟩
 ·rw[Array.toList_push,List.map_append,List.nodup_append];refine⟨h.1,by simp,fun a ha b hb e=>?_⟩;obtain⟨y,hy,rfl⟩:=List.mem_map.1 ha;simp only[List.map_cons,List.map_nil,List.mem_singleton]at hb;have:=h.2 y hy;omega
 ·rw[Array.toList_push]at hx;rcases List.mem_append.1 hx with hx|hx
  ·have:=h.2 x hx;omega
  ·simp only[List.mem_singleton]at hx;subst hx;show clock<clock+1;omega
theorem ztW {ms:Array MapEntry}{clock p:Nat}(h:zmJ ms clock):zmJ (ms.eraseIdxIfInBounds p) clock:=by
 have e:(ms.eraseIdxIfInBounds p).toList=ms.toList.eraseIdx p:=by
  rw[Array.eraseIdxIfInBounds];split
  ·simp
  ·rename_i hp;rw[List.eraseIdx_of_length_le (by simpa using hp)]
 refine⟨?_,fun x hx=>?_⟩
 ·rw[e];exact List.Sublist.nodup ((List.eraseIdx_sublist _ _).map _) h.1
 ·rw[e]at hx;exact h.2 x (List.mem_of_mem_eraseIdx hx)
theorem snd_mkmap (S:Sim L σ w){t:TypeId}{kt et:TypeId}(ht:P.underlying t=some (.map kt et))(ho:o.op=.makeMap t none)(h:zaQ P .mkmap fr σ K):zaH P o a L σ w K:=by
 have hf:∀b c,zfw { a:=⟨w.heap.size,0,none⟩ } (.map []) b c->b=w.heap.size:=fun b c h=>h;have st:=zes L σ (.map #[] 0) { a:=⟨w.heap.size,0,none⟩ } (.map []) hf;have S':=zgf S (.map #[] 0) { a:=⟨w.heap.size,0,none⟩ } (.map []) hf ⟨#[],0,by
  show(w.heap.push _)[w.heap.size]? = _;simp,rfl,by simp,by simp[zmJ]⟩
 refine⟨.map σ.length,.map (some w.heap.size),_,_,_,.inl ?_,st,S',?_,h⟩
 ·simp[execOp,ho,Instr.makeMap,newObj,Sem.run]
 ·have:=RV.map (w:=w.alloc (.map #[] 0)) (L:=zka L σ.length { a:=⟨w.heap.size,0,none⟩ }) (σ:=σ++[.map []]) σ.length ⟨.map [],by simp,by simp[AObj.kind]⟩;rw[zY]at this;exact this
theorem snd_mget (S:Sim L σ w)(F:FR w L σ fr a.tmps){t kt et:TypeId}{m k:Operand}{ok:Bool}{kk:KK}{inf:TypeInfo}{z:Value}{za:AV}{m' k':Opd}(ht:P.underlying t=some (.map kt et))(hkk:kkOf P kt=some kk)
  (hi:P.info? et=some inf) (hz:inf.zero=some z) (hza:litA z=some za) (hm:opd m=some m') (hk:opd k=some k') (ho:o.op=.lookup t m k ok) (h:zaQ P (.mget kk ok za m' k') fr σ K):zaH P o a L σ w K:=by
 simp only[zaQ,zcf]at h;have hv:=zU F hm;have hu:=zU F hk;have hzero:(zeroValue et).run P w=.ok z w:=by simp[zeroValue,typeInfo,hi,hz]
 split at h
 ·rename_i es hes;obtain⟨hfit,h⟩:=h;have hc:=zon hkk hfit hu;obtain⟨ms,hget,hl,hre⟩:∃ms:Array MapEntry,(a.eval m=.map none/\ms=#[]∨∃r clock,a.eval m=.map (some r)/\w.heap[r]? = some (.map ms clock))/\ms.toList.length=es.length/\∀(j:Nat) e x,es[j]? = some e->ms.toList[j]? = some x->RE w L σ e x:=by
   generalize ev fr m'=M at hes hv;cases M<;>simp only[zfg]at hes<;>try(cases hes;done)
   ·rename_i x;cases x<;>simp only[zfg]at hes<;>try(cases hes;done)
    cases hes;exact⟨#[],.inl ⟨hv.nilmap_inv,rfl⟩,rfl,by simp⟩
   ·rename_i id;split at hes
    ·rename_i es' hes';cases hes;obtain⟨ms,clock,h1,h2,h3⟩:=map_block S hes';exact⟨ms,.inr ⟨_,clock,hv.map_inv.1,h1⟩,h2,h3⟩
    ·cases hes
  have fin:∀ {r v},(Instr.lookup t (a.eval m) (a.eval k) ok).run P w=.ok v w->RV w L σ r v->K r σ->zaH P o a L σ w K:=fun{r v} h1 h2 h3=>
   .same S (r:=r) (v:=v) (by simp[execOp,ho,h1]) h2 h3
  have fin2:∀ {x v} (is:Bool),RV w L σ x v->RV w L σ (mgetR ok x is) (if ok then .tuple #[v,.bool is]else v):=fun{x v} is hx=>by
   cases ok
   ·exact hx
   ·exact .tup [x,.d (.bool is)] [v,.bool is] rfl (fun i c u hc hu=>by
     match i with
     | 0=>simp at hc hu;subst hc hu;exact hx
     | 1=>simp at hc hu;subst hc hu;exact .d _ _ (.bool _)
     | n+2=>simp at hc)
  split at h
  ·rename_i p v hf;have:=zjO hkk hu es ms.toList 0 hl hre hf;obtain⟨j,e,x,e1,e2,e3,e4,e5,e6⟩:=this;have hrun:=run_findKey' e6;refine fin (v:=if ok then .tuple #[x.val,.bool true]else x.val) ?_ (fin2 true (by rw[← e4];exact(hre j e x e2 e3).2)) h;rcases hget with⟨hmn,rfl⟩|⟨rr,clock,hmn,hh⟩
   ·simp only[Instr.lookup,Sem.run_bind,run_underlying ht,Result.andThen_ok,hmn,hc,hrun,Sem.run_pure]
   ·simp only[Instr.lookup,Sem.run_bind,run_underlying ht,Result.andThen_ok,hmn,zuj hh,hc,hrun,Sem.run_pure]
  ·rename_i hf;have:=zjO hkk hu es ms.toList 0 hl hre hf;have hrun:=run_findKey' this;refine fin (v:=if ok then .tuple #[z,.bool false]else z) ?_ (fin2 false (zyK hza)) h;rcases hget with⟨hmn,rfl⟩|⟨rr,clock,hmn,hh⟩
   ·simp only[Instr.lookup,Sem.run_bind,run_underlying ht,Result.andThen_ok,hmn,hc,hrun,hzero,Sem.run_pure]
   ·simp only[Instr.lookup,Sem.run_bind,run_underlying ht,Result.andThen_ok,hmn,zuj hh,hc,hrun,hzero,Sem.run_pure]
  ·exact h.elim
 ·exact h.elim
theorem snd_mset (S:Sim L σ w)(F:FR w L σ fr a.tmps){t kt et:TypeId}{m k x:Operand}{kk:KK}{m' k' x':Opd}(ht:P.underlying t=some (.map kt et))(hkk:kkOf P kt=some kk)
  (hm:opd m=some m') (hk:opd k=some k') (hx:opd x=some x') (ho:o.op=.mapUpdate t m k x∨o.op=.insert t m k x) (h:zaQ P (.mset kk m' k' x') fr σ K):zaH P o a L σ w K:=by
 simp only[zaQ,zcz]at h;have hv:=zU F hm;have hu:=zU F hk;have hz:=zU F hx;split at h
 ·rename_i id hid;rw[hid]at hv;split at h
  ·rename_i es hes;obtain⟨hfit,h⟩:=h;have hc:=zon hkk hfit hu;obtain⟨ms,clock,h1,h2,h3,h9⟩:=map_block' S hes;have hlt:=(Array.getElem?_eq_some_iff.1 h1).1;have fin:∀ {es':List (AV × AV)} {ms':Array MapEntry} {clock':Nat},(Instr.mapUpdate t (a.eval m) (a.eval k) (a.eval x)).run P w=.ok () { w with heap:=w.heap.setIfInBounds (L id).a.block (.map ms' clock') } →
     ms'.size=es'.length->(∀(j:Nat) e y,es'[j]? = some e->ms'[j]? = some y->RE w L σ e y)->zmJ ms' clock'→K (.tup []) (σ.set id (.map es'))->zaH P o a L σ w K:=fun{es' ms' clock'} g1 g2 g3 g5 g4=>by
    obtain⟨st,S'⟩:=znd S hes (x':=.map es') rfl (by simp[AObj.kind]) (by simp[AObj.kind]) (.map ms' clock') (fun w' e st=>by
     subst e;refine⟨ms',clock',?_,g2,fun j e y hj hy=>(g3 j e y hj hy).mono st,g5⟩;show(w.heap.setIfInBounds _ _)[_]? = _;simp[hlt])
    refine⟨.tup [],.tuple #[],L,_,_,.inr ⟨?_,rfl⟩,st,S',.tup [] [] rfl (by simp),g4⟩;rcases ho with ho|ho<;>simp[execOp,ho,g1]
   have hme:=hv.map_inv.1;split at h
   ·rename_i p v hf;obtain⟨j,e,y,e1,e2,e3,e4,e5,e6⟩:=zjO hkk hu es ms.toList 0 h2 h3 hf;have hrun:=run_findKey' e6;have hpj:p=j:=by omega
    subst hpj;have hky:ms[p]? = some y:=by simpa using e3
    refine fin (es':=es.set p (ev fr k',ev fr x')) (ms':=ms.modify p fun e=>{ e with key:=a.eval k,val:=a.eval x }) (clock':=clock) ?_ (by simpa using h2) (fun j' e' y' hj hy=>?_) (zzN (fun _=>rfl) h9) h
    ·have hst:=run_stays (P:=P) hfit hu;simp only[Instr.mapUpdate,Sem.run_bind,run_underlying ht,Result.andThen_ok,hme,zuj h1,hc,hrun,hky,Option.map_some,Option.getD_some,e5,hst,zyr _ h1]
    ·rw[Array.getElem?_modify]at hy;rw[List.getElem?_set]at hj;split at hj
     ·rename_i hpe;subst hpe;split at hj
      ·cases hj;rw[if_pos rfl,hky]at hy;cases hy;exact⟨hu,hz⟩
      ·cases hj
     ·rename_i hpe;rw[if_neg hpe]at hy;exact h3 j' e' y' hj (by simpa using hy)
   ·rename_i hf;have hrun:=run_findKey' (zjO hkk hu es ms.toList 0 h2 h3 hf);refine fin (es':=es++[(ev fr k',ev fr x')]) (ms':=ms.push { key:=a.eval k,val:=a.eval x,born:=clock }) (clock':=clock+1) ?_ (by simpa using h2) (fun j' e' y' hj hy=>?_) (stamps_push h9) h
    ·simp only[Instr.mapUpdate,Sem.run_bind,run_underlying ht,Result.andThen_ok,hme,zuj h1,hc,hrun,zyr _ h1]
    ·have hms:ms.size=es.length:=by simpa using h2
     rw[Array.getElem?_push]at hy;split at hy
     ·rename_i hpe;cases hy;rw[hpe,hms,List.getElem?_concat_length]at hj;cases hj;exact⟨hu,hz⟩
     ·rename_i hpe;have hlt2:j'<ms.size:=(Array.getElem?_eq_some_iff.1 hy).1;rw[List.getElem?_append_left (by omega)]at hj;exact h3 j' e' y' hj (by simpa using hy)
   ·exact h.elim
  ·exact h.elim
 ·exact h.elim
theorem map_eraseIdx' {α β:Type}(f:α→β)(l:List α)(i:Nat):(l.map f).eraseIdx i=(l.eraseIdx i).map f:=by
 apply List.ext_getElem?;intro j;simp only[List.getElem?_eraseIdx,List.getElem?_map];split<;>rfl
theorem snd_mdel (S:Sim L σ w)(F:FR w L σ fr a.tmps){c:Call}{t kt et:TypeId}{m k:Operand}{kk:KK}{m' k':Opd}(ho:o.op=.call c)(hcal:c.callee=.builtin .delete)(hat:c.argTypes[0]? = some t)(hargs:c.args.toList=[m,k])
  (ht:P.underlying t=some (.map kt et)) (hkk:kkOf P kt=some kk)
  (hm:opd m=some m') (hk:opd k=some k') (h:zaQ P (.mdel kk m' k') fr σ K):zaH P o a L σ w K:=by
 have hargs':c.args=#[m,k]:=by apply Array.ext';simpa using hargs
 simp only[zaQ,zdj]at h;have hv:=zU F hm;have hu:=zU F hk;have run:∀ {w'},(Builtin.delete_ c.argTypes o.type #[a.eval m,a.eval k]).run P w=.ok (.tuple #[]) w'→(execOp a.eval o).run P w=.ok (.value (.tuple #[])) w':=fun{w'} h1=>by
  simp[execOp,ho,resolve,hcal,hargs',invoke,builtin,h1]
 split at h
 ·rename_i id hid;rw[hid]at hv;split at h
  ·rename_i es hes;obtain⟨hfit,h⟩:=h;have hc:=zon hkk hfit hu;obtain⟨ms,clock,h1,h2,h3,h9⟩:=map_block' S hes;have hlt:=(Array.getElem?_eq_some_iff.1 h1).1;have fin:∀ {es':List (AV × AV)} {ms':Array MapEntry} {clock':Nat},(Builtin.delete_ c.argTypes o.type #[a.eval m,a.eval k]).run P w=.ok (.tuple #[]) { w with heap:=w.heap.setIfInBounds (L id).a.block (.map ms' clock') } →
     ms'.size=es'.length->(∀(j:Nat) e y,es'[j]? = some e->ms'[j]? = some y->RE w L σ e y)->zmJ ms' clock'→K (.tup []) (σ.set id (.map es'))->zaH P o a L σ w K:=fun{es' ms' clock'} g1 g2 g3 g5 g4=>by
    obtain⟨st,S'⟩:=znd S hes (x':=.map es') rfl (by simp[AObj.kind]) (by simp[AObj.kind]) (.map ms' clock') (fun w' e st=>by
     subst e;refine⟨ms',clock',?_,g2,fun j e y hj hy=>(g3 j e y hj hy).mono st,g5⟩;show(w.heap.setIfInBounds _ _)[_]? = _;simp[hlt])
    exact⟨.tup [],.tuple #[],L,_,_,.inl (run g1),st,S',.tup [] [] rfl (by simp),g4⟩
   have hme:=hv.map_inv.1;split at h
   ·rename_i p v hf;obtain⟨j,e,y,e1,e2,e3,e4,e5,e6⟩:=zjO hkk hu es ms.toList 0 h2 h3 hf;have hrun:=run_findKey' e6;have hpj:p=j:=by omega
    subst hpj;have hms:ms.size=es.length:=by simpa using h2
    have hplt:=zo e2;refine fin (es':=es.eraseIdx p) (ms':=ms.eraseIdxIfInBounds p) (clock':=clock) ?_ ?_ (fun j' e' y' hj hy=>?_) (ztW h9) h
    ·simp only[Builtin.delete_,List.getElem?_toArray,List.getElem?_cons_zero,List.getElem?_cons_succ,hat,Sem.run_bind,run_underlying ht,Result.andThen_ok,hme,zuj h1,hc,hrun,zyr _ h1,Sem.run_pure]
    ·rw[Array.eraseIdxIfInBounds,dif_pos (by omega)];simp[List.length_eraseIdx,hplt,hms]
    ·rw[Array.eraseIdxIfInBounds,dif_pos (by omega),← Array.getElem?_toList,Array.toList_eraseIdx]at hy;rw[List.getElem?_eraseIdx]at hj hy;split at hj
     ·rename_i hlt';rw[if_pos hlt']at hy;exact h3 j' e' y' hj hy
     ·rename_i hlt';rw[if_neg hlt']at hy;exact h3 (j'+1) e' y' hj hy
   ·rename_i hf;have hrun:=run_findKey' (zjO hkk hu es ms.toList 0 h2 h3 hf);have hset:σ.set id (.map es)=σ:=by
     apply List.ext_getElem?;intro j;rw[List.getElem?_set];split
     ·rename_i e;subst e;rw[hes,if_pos (zo hes)]
     ·rfl
    refine fin (es':=es) (ms':=ms) (clock':=clock) ?_ (by simpa using h2) (fun j' e' y' hj hy=>h3 j' e' y' hj (by simpa using hy)) h9 (by rw[hset];exact h);simp only[Builtin.delete_,List.getElem?_toArray,List.getElem?_cons_zero,List.getElem?_cons_succ,hat,Sem.run_bind,run_underlying ht,Result.andThen_ok,hme,zuj h1,hc,hrun,zyr _ h1,Sem.run_pure]
   ·exact h.elim
  ·rename_i c0 bs0 es hes;obtain⟨hfit,h⟩:=h;have hc:=zon hkk hfit hu;obtain⟨ms,h1,h2',h3',h9,h5b⟩:=S.obj id _ hes;have h2:ms.toList.length=es.length:=by simpa using h2'
   have h3:∀(i:Nat) (e:AV × AV) (m:MapEntry),es[i]? = some e->ms.toList[i]? = some m->RE w L σ e m:=fun i e m he hm=>h3' i e m he (by simpa using hm);have hlt:=(Array.getElem?_eq_some_iff.1 h1).1;have fin:∀ {es':List (AV × AV)} {ms':Array MapEntry},(Builtin.delete_ c.argTypes o.type #[a.eval m,a.eval k]).run P w=.ok (.tuple #[]) { w with heap:=w.heap.setIfInBounds (L id).a.block (.map ms' c0) } →
     ms'.size=es'.length->(∀(j:Nat) e y,es'[j]? = some e->ms'[j]? = some y->RE w L σ e y)->zmJ ms' c0->K (.tup []) (σ.set id (.mapr c0 (ms'.toList.map (·.born)) es'))->zaH P o a L σ w K:=fun{es' ms'} g1 g2 g3 g5 g4=>by
    obtain⟨st,S'⟩:=znd S hes (x':=.mapr c0 (ms'.toList.map (·.born)) es') rfl (by simp[AObj.kind]) (by simp[AObj.kind]) (.map ms' c0) (fun w' e st=>by
     subst e;refine⟨ms',?_,g2,fun j e y hj hy=>(g3 j e y hj hy).mono st,g5,rfl⟩;show(w.heap.setIfInBounds _ _)[_]? = _;simp[hlt])
    exact⟨.tup [],.tuple #[],L,_,_,.inl (run g1),st,S',.tup [] [] rfl (by simp),g4⟩
   have hme:=hv.map_inv.1;split at h
   ·rename_i p v hf;obtain⟨j,e,y,e1,e2,e3,e4,e5,e6⟩:=zjO hkk hu es ms.toList 0 h2 h3 hf;have hrun:=run_findKey' e6;have hpj:p=j:=by omega
    subst hpj;have hms:ms.size=es.length:=by simpa using h2
    have hplt:=zo e2;refine fin (es':=es.eraseIdx p) (ms':=ms.eraseIdxIfInBounds p) ?_ ?_ (fun j' e' y' hj hy=>?_) (ztW h9) (by rw[Array.eraseIdxIfInBounds,dif_pos (by omega),Array.toList_eraseIdx,← map_eraseIdx',h5b];exact h)
    ·simp only[Builtin.delete_,List.getElem?_toArray,List.getElem?_cons_zero,List.getElem?_cons_succ,hat,Sem.run_bind,run_underlying ht,Result.andThen_ok,hme,zuj h1,hc,hrun,zyr _ h1,Sem.run_pure]
    ·rw[Array.eraseIdxIfInBounds,dif_pos (by omega)];simp[List.length_eraseIdx,hplt,hms]
    ·rw[Array.eraseIdxIfInBounds,dif_pos (by omega),← Array.getElem?_toList,Array.toList_eraseIdx]at hy;rw[List.getElem?_eraseIdx]at hj hy;split at hj
     ·rename_i hlt';rw[if_pos hlt']at hy;exact h3 j' e' y' hj hy
     ·rename_i hlt';rw[if_neg hlt']at hy;exact h3 (j'+1) e' y' hj hy
   ·rename_i hf;have hrun:=run_findKey' (zjO hkk hu es ms.toList 0 h2 h3 hf);have hset:σ.set id (.mapr c0 bs0 es)=σ:=by
     apply List.ext_getElem?;intro j;rw[List.getElem?_set];split
     ·rename_i e;subst e;rw[hes,if_pos (zo hes)]
     ·rfl
    refine fin (es':=es) (ms':=ms) ?_ (by simpa using h2) (fun j' e' y' hj hy=>h3 j' e' y' hj (by simpa using hy)) h9 (by rw[h5b,hset];exact h);simp only[Builtin.delete_,List.getElem?_toArray,List.getElem?_cons_zero,List.getElem?_cons_succ,hat,Sem.run_bind,run_underlying ht,Result.andThen_ok,hme,zuj h1,hc,hrun,zyr _ h1,Sem.run_pure]
   ·exact h.elim
  ·exact h.elim
 ·rename_i hid;rw[hid]at hv;obtain⟨hfit,h⟩:=h;have hc:=zon hkk hfit hu;refine .same S (r:=.tup []) (v:=.tuple #[]) (run ?_) (.tup [] [] rfl (by simp)) h;simp only[Builtin.delete_,List.getElem?_toArray,List.getElem?_cons_zero,List.getElem?_cons_succ,hat,Sem.run_bind,run_underlying ht,Result.andThen_ok,hv.nilmap_inv,hc,Sem.run_pure]
 ·exact h.elim
theorem snd_isnil (S:Sim L σ w)(F:FR w L σ fr a.tmps){op:BinOp}{t u:TypeId}{x y:Operand}{x':Opd}(hn:nilCmp P op t y=true)(hx:opd x=some x')(ho:o.op=.binOp op t x y u)
  (h:zaQ P (.isnil (zuR op) x') fr σ K):zaH P o a L σ w K:=by
 simp only[zaQ,zaB]at h;have hv:=zU F hx;obtain⟨e,ht,hy,hop⟩:∃e,P.underlying t=some (.slice e)/\y=.const (.slice none 0 0)/\(op=.eql∨op=.neq):=by
  unfold nilCmp at hn;split at hn
  ·exact⟨_,by assumption,rfl,.inl rfl⟩
  ·exact⟨_,by assumption,rfl,.inr rfl⟩
  ·cases hn
 subst hy;have fin:∀ {b n c},a.eval x=.slice b n c->K (.d (.bool (b.isNone != zuR op))) σ->zaH P o a L σ w K:=fun{b n c} h1 h2=>by
  refine .same S (r:=.d (.bool (b.isNone != zuR op))) (v:=.bool (b.isNone != zuR op)) ?_ (.d _ _ (.bool _)) h2;have he:a.eval (.const (.slice none 0 0))=.slice none 0 0:=rfl;rcases hop with rfl|rfl
  ·simp[execOp,ho,h1,he,eqGuard_at_slice,Lib.run_eql_slice_nil w t e b n c 0 0 ht,zuR]
  ·have:=run_neq_slice_nil_any w t e b n c 0 0 ht;simp[execOp,ho,h1,he,eqGuard_at_slice,this,zuR]
 split at h
 ·rename_i hes;obtain⟨b,cap,hX,_⟩:=(hv.esOf_inv hes).len;refine fin hX ?_;cases b with
  | none=>cases hq:zuR op<;>simp<;>first|exact h.1|exact h.2
  | some _=>cases hq:zuR op<;>simp<;>first|exact h.1|exact h.2
 ·rename_i e' es' hes;obtain⟨b,cap,hX,hle,hb⟩:=(hv.esOf_inv hes).len;refine fin hX ?_;cases b with
  | none=>have:=hb rfl;simp at hle;omega
  | some _=>simpa using h
 ·split at h
  ·rename_i hid;rw[hid]at hv;obtain⟨hX,_⟩:=hv.bsl_inv;exact fin hX (by simpa using h)
  ·rename_i hid;rw[hid]at hv;exact fin (nils_inv hv) (by cases hq:zuR op<;>simpa [hq] using h)
  ·rename_i lo hi hid;rw[hid]at hv;obtain⟨b,cap,hX,_,_,hle,hb,_⟩:=hv.rsl_inv;refine fin hX ?_;rcases Nat.eq_zero_or_pos (hi-lo)with h0|h0
   ·have h':=h.1 h0;cases b with
    | none=>cases hq:zuR op<;>simp<;>first|exact h'.1|exact h'.2
    | some _=>cases hq:zuR op<;>simp<;>first|exact h'.1|exact h'.2
   ·have h':=h.2 h0;cases b with
    | none=>have:=hb rfl;omega
    | some _=>simpa using h'
  ·exact h.elim
end
section
variable {P:Program} {o:Oper} {i:I} {fr:zW} {σ:List AObj} {K:KT} {L:Nat->Loc} {w:World} {a:Act}
theorem heap_same {w:World}{b:Nat}{x:Obj}(h:w.heap[b]? = some x):({ w with heap:=w.heap.setIfInBounds b x }:World)=w:=by
 have:w.heap.setIfInBounds b x=w.heap:=by
  apply Array.ext_getElem?;intro i;rw[Array.getElem?_setIfInBounds];split
  ·rename_i e;subst e;rw[h];simp[(Array.getElem?_eq_some_iff.1 h).1]
  ·rfl
 rw[this]
theorem obj_tell (S:Sim L σ w){id:Nat}{x x':AObj}(hx:σ[id]? = some x)(hk:x'.kind=x.kind)(h2:2<=x.kind)(h3:x.kind<=3){ob:Obj}(hb:w.heap[(L id).a.block]? = some ob)
  (hok:zdx L σ w L (σ.set id x') w->zsQ w L (σ.set id x') (L id) x'):zdx L σ w L (σ.set id x') w/\Sim L (σ.set id x') w:=by
 have:=znd S hx hk h2 h3 ob (fun w' e st=>by rw[heap_same hb]at e;subst e;exact hok st);rwa [heap_same hb]at this
theorem snd_rangeM (S:Sim L σ w)(F:FR w L σ fr a.tmps){t kt et:TypeId}{x:Operand}{y:Opd}(ht:P.underlying t=some (.map kt et))(hx:opd x=some y)(ho:o.op=.range t x)(h:zaQ P (.rangeM y) fr σ K):zaH P o a L σ w K:=by
 simp only[zaQ,zlV]at h;have hv:=zU F hx;split at h
 ·rename_i id hid;rw[hid]at hv;obtain⟨hX,hfix⟩:=hv.map_inv;split at h
  ·rename_i es hes;obtain⟨ms,clock,h1,h2,h3,h4⟩:=S.obj id _ hes;have hlt:=zo hes;obtain⟨s1,S1⟩:=obj_tell S hes (x':=.mapr clock (ms.toList.map (·.born)) es) rfl (by simp[AObj.kind]) (by simp[AObj.kind]) h1 (fun st=>⟨ms,h1,h2,fun i e m he hm=>(h3 i e m he hm).mono st,h4,rfl⟩);obtain⟨σ1,hσ1⟩:∃σ1,σ.set id (.mapr clock (ms.toList.map (·.born)) es)=σ1:=⟨_,rfl⟩;have hK:=h clock (ms.toList.map (·.born)) (by simpa using h2) h4.1;have hl1:σ1.length=σ.length:=by rw[← hσ1];simp
   have hg1:σ1[id]? = some (.mapr clock (ms.toList.map (·.born)) es):=by rw[← hσ1];exact List.getElem?_set_self hlt
   rw[hσ1]at s1 S1 hK;have hf:∀b c,zfw { a:=⟨w.heap.size,0,none⟩ } (.mit (some id) clock []) b c->b=w.heap.size:=fun b c h=>h;have st:=zes L σ1 (.mapIter (some (L id).a.block) clock #[] clock) { a:=⟨w.heap.size,0,none⟩ } (.mit (some id) clock []) hf;have S':=zgf S1 (.mapIter (some (L id).a.block) clock #[] clock) { a:=⟨w.heap.size,0,none⟩ } (.mit (some id) clock []) hf (by
    refine⟨⟨_,by rw[List.getElem?_append_left (by omega)];exact hg1,by simp[AObj.kind]⟩,?_⟩;rw[zbG (by omega)];show(w.heap.push _)[w.heap.size]? = _;simp)
   refine⟨.iter σ1.length,.pointer (some ⟨w.heap.size,0,none⟩),_,_,_,.inl ?_,s1.trans st,S',?_,by rw[hl1];exact hK⟩
   ·have:=run_range_map (P:=P) w t kt et (L id).a.block ms clock ht h1;simp[execOp,ho,hX,this]
   ·have:=RV.iter (w:=w.alloc (.mapIter (some (L id).a.block) clock #[] clock)) (L:=zka L σ1.length { a:=⟨w.heap.size,0,none⟩ }) (σ:=σ1++[.mit (some id) clock []]) σ1.length ⟨.mit (some id) clock [],by simp,by simp[AObj.kind]⟩;rw[zY]at this;exact this
  ·exact h.elim
 ·rename_i hid;rw[hid]at hv;have hX:=hv.nilmap_inv;have hf:∀b c,zfw { a:=⟨w.heap.size,0,none⟩ } (.mit none 0 []) b c->b=w.heap.size:=fun b c h=>h;have st:=zes L σ (.mapIter none 0 #[] 0) { a:=⟨w.heap.size,0,none⟩ } (.mit none 0 []) hf;have S':=zgf S (.mapIter none 0 #[] 0) { a:=⟨w.heap.size,0,none⟩ } (.mit none 0 []) hf (by
   show(w.heap.push _)[w.heap.size]? = _;simp)
  refine⟨.iter σ.length,.pointer (some ⟨w.heap.size,0,none⟩),_,_,_,.inl ?_,st,S',?_,h⟩
  ·have:=run_range_nilMap (P:=P) w t kt et ht;simp[execOp,ho,hX,this]
  ·have:=RV.iter (w:=w.alloc (.mapIter none 0 #[] 0)) (L:=zka L σ.length { a:=⟨w.heap.size,0,none⟩ }) (σ:=σ++[.mit none 0 []]) σ.length ⟨.mit none 0 [],by simp,by simp[AObj.kind]⟩;rw[zY]at this;exact this
 ·exact h.elim
theorem run_nextR (w:World)(ty:TypeId)(r bm c:Nat)(seen:Array Nat)(es:Array MapEntry)(hr:w.heap[r]? = some (.mapIter (some bm) c seen c))(hb:w.heap[bm]? = some (.map es c))(hold:∀x∈es.toList,x.born<c) :
  ((∀x∈es.toList,seen.contains x.born=true)/\(Instr.next (.pointer (some ⟨r,0,none⟩)) false ty).run P w=.ok (.tuple #[.bool false]) w) ∨
  ∃e∈es.toList,seen.contains e.born=false/\∃d,(Instr.next (.pointer (some ⟨r,0,none⟩)) false ty).run P w=.ok (.tuple #[.bool true,e.key,e.val]) { w with drawn:=d,heap:=w.heap.setIfInBounds r (.mapIter (some bm) c (seen.push e.born) c) }:=by
 simp only[Instr.next,getObj,Sem.run_bind,Sem.run,hr,hb,Result.andThen,next_test_false seen es c c hold (Nat.le_refl _),Bool.false_eq_true,if_false];have hmem0:∀x∈(Array.filter (fun e=>!seen.contains e.born) es).toList,x∈es.toList/\seen.contains x.born=false:=fun x hx=>by
  simp at hx ⊢;exact hx
 have hall0:(Array.filter (fun e=>!seen.contains e.born) es).size=0->∀x∈es.toList,seen.contains x.born=true:=fun h0 x hx=>by
  have h1:Array.filter (fun e=>!seen.contains e.born) es=#[]:=Array.eq_empty_of_size_eq_zero h0;rw[Array.filter_eq_empty_iff]at h1;have:=h1 x (by simpa using hx);simpa using this
 generalize Array.filter (fun e=>!seen.contains e.born) es=Lf at hmem0 hall0 ⊢;have e1:Lf.filter (fun x=>decide (x.born<c))=Lf:=Array.filter_eq_self.2 (fun x hx=>by simpa using hold x (hmem0 x (by simpa using hx)).1);have e2:Lf.filter (fun x=>decide (x.born≥c))=#[]:=by
  rw[Array.filter_eq_empty_iff];intro x hx;have:=hold x (hmem0 x (by simpa using hx)).1;simp;omega
 simp only[e1,e2,Array.append_empty];by_cases h0:Lf.size=0
 ·left;refine⟨hall0 h0,?_⟩;have:Lf=#[]:=Array.eq_empty_of_size_eq_zero h0;subst this;simp[choose,Sem.run,Question.forced]
 ·right;have hne:Lf.isEmpty=false:=by simp[Array.isEmpty,h0]
  simp only[hne,Bool.false_eq_true,if_false,Array.empty_append,Array.size_map];have hch:∃(j d:Nat),j<Lf.size/\(choose (Question.mapNext Lf.size)).run P w=.ok j { w with drawn:=d }:=by
   by_cases hf:Lf.size<=1
   ·exact⟨0,w.drawn,by omega,by simp[choose,Sem.run,Question.forced,hf]⟩
   ·exact⟨_,w.drawn+1,Nat.mod_lt _ (by omega),by
     simp only[choose,Sem.run,Question.forced,decide_eq_true_eq,hf,if_false,Question.cut];rfl⟩
  obtain⟨j,d,hj,hrun⟩:=hch;refine⟨Lf[j],(hmem0 _ (by simp)).1,(hmem0 _ (by simp)).2,d,?_⟩;simp only[hrun,Array.getElem?_map,Array.getElem?_eq_getElem hj,Option.map_some,Sem.run_bind,setObj,Sem.run,hr,Result.andThen];rfl
theorem snd_nextM (S:Sim L σ w)(F:FR w L σ fr a.tmps){x:Operand}{y:Opd}(hx:opd x=some y)(ho:o.op=.next x false)(h:zaQ P (.nextM y) fr σ K):zaH P o a L σ w K:=by
 simp only[zaQ,zqr]at h;have hv:=zU F hx;split at h
 ·rename_i id hid;rw[hid]at hv;obtain⟨hX,hfix⟩:=hv.iter_inv;have one:∀ {L:Nat->Loc} {σ:List AObj} {w:World},RV w L σ (.tup [.d (.bool false)]) (.tuple #[.bool false]):=fun{L σ w}=>.tup [.d (.bool false)] [.bool false] rfl (fun i c v hc hv=>by
   match i with
   | 0=>simp at hc hv;subst hc hv;exact .d _ _ (.bool _)
   | n+1=>simp at hc)
  split at h
  ·rename_i c seen hs;have hob:w.heap[(L id).a.block]? = some (.mapIter none 0 #[] 0):=S.obj id _ hs;refine .same S (r:=.tup [.d (.bool false)]) (v:=.tuple #[.bool false]) ?_ one h;simp only[execOp,ho,hX,Instr.next,getObj,Sem.run_bind,Sem.run,hob,Result.andThen];rfl
  ·rename_i m c seen hs;split at h
   ·rename_i c' bs es hm;obtain⟨rfl,hover,hnext⟩:=h;obtain⟨hfx,hob⟩:=S.obj id _ hs;obtain⟨ms,k1,k2,k3,k4,k5⟩:=S.obj m _ hm;have hrun:=run_nextR (P:=P) w o.type (L id).a.block (L m).a.block c' seen.toArray ms hob k1 k4.2;rcases hrun with⟨hall,hrun⟩|⟨e,he,hes,d,hrun⟩
    ·obtain⟨st,S'⟩:=obj_tell S hm (x':=.map es) rfl (by simp[AObj.kind]) (by simp[AObj.kind]) k1 (fun st=>⟨ms,c',k1,k2,fun i e m he hm=>(k3 i e m he hm).mono st,k4⟩);refine⟨.tup [.d (.bool false)],.tuple #[.bool false],L,_,w,.inl ?_,st,S',one,hover fun b hb=>?_⟩
     ·simp[execOp,ho,hX,hrun]
     ·rw[← k5]at hb;obtain⟨e,he,rfl⟩:=List.mem_map.1 hb;simpa using hall e he
    ·obtain⟨S1,s1⟩:=S.drew d;obtain⟨i,hi⟩:=List.mem_iff_getElem?.1 he;have hil:=zo hi;have hi':ms[i]? = some e:=by simpa using hi
     have hei:es[i]? = some (es[i]'(by rw[← k2];simpa using hil)):=List.getElem?_eq_getElem _;have hbi:bs[i]? = some e.born:=by rw[← k5,List.getElem?_map,hi];rfl
     have hK:=hnext i e.born _ hbi hei (by simpa using hes);have hre:=k3 i _ e hei hi';have hlt:=(Array.getElem?_eq_some_iff.1 hob).1;obtain⟨st,S'⟩:=znd S1 hs (x':=.mit (some m) c' (seen++[e.born])) rfl (by simp[AObj.kind]) (by simp[AObj.kind]) (.mapIter (some (L m).a.block) c' (seen.toArray.push e.born) c') (fun w' e' st=>by
      subst e';refine⟨(st.fixed hfx).1,?_⟩;show(w.heap.setIfInBounds _ _)[_]? = _;simp[hlt])
     refine⟨_,.tuple #[.bool true,e.key,e.val],L,_,_,.inl ?_,s1.trans st,S',?_,hK⟩
     ·simp[execOp,ho,hX,hrun]
     ·have hre':=hre.mono (s1.trans st);exact .tup [.d (.bool true),(es[i]'(by rw[← k2];simpa using hil)).1,(es[i]'(by rw[← k2];simpa using hil)).2] [.bool true,e.key,e.val] rfl (fun j c v hc hv=>by
       match j with
       | 0=>simp at hc hv;subst hc hv;exact .d _ _ (.bool _)
       | 1=>simp at hc hv;subst hc hv;exact hre'.1
       | 2=>simp at hc hv;subst hc hv;exact hre'.2
       | n+3=>simp at hc)
   ·exact h.elim
  ·exact h.elim
 ·exact h.elim
theorem born_find (e:MapEntry):∀(l:List MapEntry),(l.map (·.born)).Nodup->e∈l->l.find? (·.born==e.born)=some e
 | x::l,hn,he=>by
  obtain⟨h1,h2⟩:=List.nodup_cons.1 hn;rcases List.mem_cons.1 he with rfl|h
  ·simp
  ·have hx:(x.born==e.born)=false:=by
    cases hc:x.born==e.born with
    | false=>rfl
    | true=>exact absurd (List.mem_map.2 ⟨e,h,(beq_iff_eq.1 hc).symm⟩) h1
   rw[List.find?_cons,hx];exact born_find e l h2 h
theorem snd_entryM (S:Sim L σ w)(F:FR w L σ fr a.tmps){x:Operand}{y:Opd}(hx:opd x=some y)(ho:o.op=.entry x)(h:zaQ P (.entryM y) fr σ K):zaH P o a L σ w K:=by
 simp only[zaQ,znn]at h;have hv:=zU F hx;split at h
 ·rename_i id hid;rw[hid]at hv;obtain⟨hX,hfix⟩:=hv.iter_inv;split at h
  ·rename_i m c seen hs;split at h
   ·rename_i c' bs es hm;obtain⟨rfl,i,b,e,h1,h2,h3,h4⟩:=h;obtain⟨hfx,hob⟩:=S.obj id _ hs;obtain⟨ms,k1,k2,k3,k4,k5⟩:=S.obj m _ hm;rw[← k5,List.getElem?_map]at h2;obtain⟨y',hy,hyb⟩:=Option.map_eq_some_iff.1 h2;have hf:ms.find? (·.born==b)=some y':=by rw[← Array.find?_toList,← hyb];exact born_find y' ms.toList k4.1 (List.mem_of_getElem? hy)
    have hre:=k3 i e y' h3 (by simpa using hy);have hbk:seen.toArray.back? = some b:=by simp[h1]
    refine .same S (r:=.tup [e.1,e.2]) (v:=.tuple #[y'.key,y'.val]) ?_ ?_ h4
    ·simp only[execOp,ho,hX,Instr.entry,getObj,Sem.run_bind,Sem.run,hob,k1,hbk,Result.andThen,bne_self_eq_false,Bool.false_eq_true,if_false,hf];rfl
    ·exact .tup [e.1,e.2] [y'.key,y'.val] rfl (fun j c v hc hv=>by
      match j with
      | 0=>simp at hc hv;subst hc hv;exact hre.1
      | 1=>simp at hc hv;subst hc hv;exact hre.2
      | n+2=>simp at hc)
   ·exact h.elim
  ·exact h.elim
 ·exact h.elim
end
section
variable {P:Program} {o:Oper} {fr:zW} {σ:List AObj} {K:KT} {L:Nat->Loc} {w:World} {a:Act}
theorem callOk_spec {f : FuncId} (h : zza P f = true) : ∃ fn c, P.funcs[f]? = some fn ∧ fn.name ≠ "runtime.NumGoroutine" ∧ fn.body = some c := by
 unfold zza at h;split at h
 ·rename_i fn hf;simp only[Bool.and_eq_true,bne_iff_ne,ne_eq]at h;obtain⟨h1,h2⟩:=h;cases hb:fn.body with
  | none=>simp[hb]at h2
  | some c=>exact⟨fn,c,hf,h1,hb⟩
 ·cases h
theorem zlk {f:FuncId}(h:zza P f=true)(args:Array Value)(w:World):(callFunc f args).run P w=.ok (.enter f args) w:=by
 obtain⟨fn,c,h1,h2,h3⟩:=callOk_spec h;simp[callFunc,program,Sem.run,h1,h2,h3]
theorem dm1_sound {x:AV}{v:Value}(h:RV w L σ x v):RV w L σ (dm1 x) v:=by
 cases h with
 | own _ _ _ _ _ _ _ _ h=>exact .d _ _ h
 | exact _ _ h=>exact .d _ _ h
 | nils=>exact .nils
 | d _ _ h=>exact .d _ _ h
 | agg _ _ h1 h2=>exact .agg _ _ h1 h2
 | tup _ _ h1 h2=>exact .tup _ _ h1 h2
 | bsl _ _ _ _ _ h1 h2=>exact .bsl _ _ _ _ _ h1 h2
 | box _ _ h=>exact .box _ _ h
 | vp _ _ _ h=>exact .vp _ _ _ h
 | map _ h=>exact .map _ h
 | iter _ h=>exact .iter _ h
 | fn _ _ _ _ _ h1 h2 h3 h4=>exact .fn _ _ _ _ _ h1 h2 h3 h4
 | rsl _ _ _ _ _ _ _ h1 h2 h3 h4 h5 h6 h7=>exact .rsl _ _ _ _ _ _ _ h1 h2 h3 h4 h5 h6 h7
 | rpt _ _ _ _ _ h1 h2 h3=>exact .rpt _ _ _ _ _ h1 h2 h3
 | undef _=>exact .undef _
theorem zvs {x:AV}{v:Value}(h:RV w L σ x v):RV w L σ (dm x) v:=by
 cases x with
 | agg cs=>
  obtain⟨vs,rfl,h1,h2⟩:=h.agg_inv
  refine .agg _ _ (by simpa using h1) fun i c v hc hv=>?_
  simp only[List.getElem?_map,Option.map_eq_some_iff]at hc
  obtain⟨c',hc',rfl⟩:=hc
  exact dm1_sound (h2 i c' v hc' hv)
 | _=>exact dm1_sound h
theorem RVs.append {as0 bs:List AV}{us vs:List Value}(h1:RVs w L σ as0 us)(h2:RVs w L σ bs vs):RVs w L σ (as0++bs) (us++vs):=by
 refine⟨by simp[h1.1,h2.1],fun i x v hx hv=>?_⟩;rcases Nat.lt_or_ge i as0.length with hl|hl
 ·rw[List.getElem?_append_left hl]at hx;rw[List.getElem?_append_left (by rw[h1.1];exact hl)]at hv;exact h1.2 i x v hx hv
 ·rw[List.getElem?_append_right hl]at hx;rw[List.getElem?_append_right (by rw[h1.1];exact hl),h1.1]at hv;exact h2.2 _ x v hx hv
theorem zwL (F:FR w L σ fr a.tmps){os:List Operand}{xs:List Opd}(h:os.mapM opd=some xs):RVs w L σ (xs.map fun x=>dm (ev fr x)) (os.map a.eval):=by
 have h0:=zmy F h;refine⟨by have:=h0.1;simpa using this,fun i b v hb hv=>?_⟩;simp only[List.getElem?_map,Option.map_eq_some_iff]at hb;obtain⟨x,hx,rfl⟩:=hb;exact zvs (h0.2 i (ev fr x) v (by simp[hx]) hv)
abbrev After (P:Program) (o:Oper) (a:Act) (L:Nat->Loc) (σ:List AObj) (w:World) (K:KT) (next:Act->World->Prop):Prop:=
 ∀r v L' σ' w',zdx L σ w L' σ' w'→Sim L' σ' w'→RV w' L' σ' r v->K r σ'→next (a.put o.dst v) w'
def Outc (P:Program) (o:Oper) (a:Act) (L:Nat->Loc) (σ:List AObj) (w:World) (K:KT):Prop:=
 zaH P o a L σ w K∨(∃(f:FuncId) (vs:List Value),(execOp a.eval o).run P w=.ok (.enter f vs.toArray) w/\Calls P f vs.toArray w (CR L σ w K)) ∨
 ∃l fn tmps assign body,(execOp a.eval o).run P w=.ok (.round l fn tmps assign body) w/\RoundIn Fence.wide 0 P l fn tmps assign body w (CR L σ w K)
theorem zaH.out (h:zaH P o a L σ w K):Outc P o a L σ w K:=.inl h
theorem zAA {f:FuncId}{as0:List AV}{vs:List Value}(hrun:(execOp a.eval o).run P w=.ok (.enter f vs.toArray) w)(S:Sim L σ w)(hv:RVs w L σ as0 vs)(h:ACall P f as0 σ K):Outc P o a L σ w K:=
 .inr (.inl ⟨f,vs,hrun,h.2 L w vs S hv⟩)
theorem astep_sound {i:I}(hc:zcC P o=some i.norm)(S:Sim L σ w)(F:FR w L σ fr a.tmps)(h:zaQ P i fr σ K):Outc P o a L σ w K:=by
 cases hop:o.op with
 | move x=>
  simp only[zcC,hop,Option.bind_eq_bind,Option.bind_eq_some_iff,Option.pure_def,Option.some.injEq]at hc
  obtain⟨y,hy,hc⟩:=hc
  cases i<;>simp only[I.norm]at hc<;>cases hc
  ·exact(snd_mv S F hy (.inl hop) h).out
  ·exact(snd_nilc S hy (.inl hop) h).out
 | assign x=>
  simp only[zcC,hop,Option.bind_eq_bind,Option.bind_eq_some_iff,Option.pure_def,Option.some.injEq]at hc
  obtain⟨y,hy,hc⟩:=hc
  cases i<;>simp only[I.norm]at hc<;>cases hc
  ·exact(snd_mv S F hy (.inr hop) h).out
  ·exact(snd_nilc S hy (.inr hop) h).out
 | pick c x y=>
  simp only[zcC,hop,Option.bind_eq_bind,Option.bind_eq_some_iff,Option.pure_def,Option.some.injEq]at hc
  obtain⟨c',hc',x',hx,y',hy,hc⟩:=hc
  cases i<;>simp only[I.norm]at hc<;>cases hc
  exact(snd_pick S F hc' hx hy hop h).out
 | alloc t=>
  simp only[zcC,hop,Option.bind_eq_bind,Option.bind_eq_some_iff,Option.pure_def,Option.some.injEq]at hc
  obtain⟨z,hz,hc⟩:=hc
  cases i<;>simp only[I.norm]at hc<;>cases hc
  exact(snd_alloc S hz hop h).out
 | box t x=>
  simp only[zcC,hop,Option.bind_eq_bind,Option.bind_eq_some_iff,Option.pure_def,Option.some.injEq]at hc
  obtain⟨y,hy,hc⟩:=hc
  cases i<;>simp only[I.norm]at hc<;>cases hc
  exact(snd_box S F hy hop h).out
 | build t parts=>
  have hc':=hc
  simp only[zcC,hop]at hc
  have:i.norm=i:=by
   split at hc
   ·simp only[Option.bind_eq_bind,Option.bind_eq_some_iff]at hc;obtain⟨_,_,_,_,hc⟩:=hc;split at hc
    ·simp only[Option.pure_def,Option.some.injEq]at hc;cases i<;>simp only[I.norm]at hc<;>cases hc;rfl
    ·cases hc
   ·simp only[Option.bind_eq_bind,Option.bind_eq_some_iff,Option.pure_def,Option.some.injEq]at hc;obtain⟨_,_,_,_,_,_,hc⟩:=hc;cases i<;>simp only[I.norm]at hc<;>cases hc;rfl
   ·cases hc
  rw[this]at hc'
  exact(snd_build S F hop hc' h).out
 | buildSlice t n parts=>
  have hc':=hc
  simp only[zcC,hop]at hc
  split at hc
  ·simp only[Option.bind_eq_bind,Option.bind_eq_some_iff,Option.pure_def]at hc
   obtain⟨_,_,_,_,_,_,hc⟩:=hc
   split at hc
   ·simp only[Option.some.injEq]at hc
    cases i<;>simp only[I.norm]at hc<;>cases hc
    exact(snd_mkslice S F hop hc' h).out
   ·cases hc
  ·cases hc
 | load t x=>
  simp only[zcC,hop,Option.bind_eq_bind,Option.bind_eq_some_iff,Option.pure_def,Option.some.injEq]at hc
  obtain⟨g,hg,n,hn,y,hy,hc⟩:=hc
  cases i<;>simp only[I.norm]at hc<;>cases hc
  exact(snd_load S F hg hn hy hop h).out
 | store t x y=>
  simp only[zcC,hop,Option.bind_eq_bind,Option.bind_eq_some_iff,Option.pure_def,Option.some.injEq]at hc
  obtain⟨n,hn,x',hx,y',hy,hc⟩:=hc
  cases i<;>simp only[I.norm]at hc<;>cases hc
  exact(snd_store S F hn hx hy hop h).out
 | nilCheck x=>
  simp only[zcC,hop,Option.bind_eq_bind,Option.bind_eq_some_iff,Option.pure_def,Option.some.injEq]at hc
  obtain⟨y,hy,hc⟩:=hc
  cases i<;>simp only[I.norm]at hc<;>cases hc
  exact(snd_nilchk S F hy hop h).out
 | binOp op t x y u=>
  simp only[zcC,hop]at hc
  split at hc
  ·rename_i hn
   simp only[Option.bind_eq_bind,Option.bind_eq_some_iff,Option.pure_def,Option.some.injEq]at hc
   obtain⟨x',hx,hc⟩:=hc
   cases i<;>simp only[I.norm]at hc<;>cases hc
   exact(snd_isnil S F hn hx hop h).out
  ·simp only[Option.bind_eq_bind,Option.bind_eq_some_iff,Option.pure_def,Option.some.injEq]at hc
   obtain⟨e,he,x',hx,y',hy,hc⟩:=hc
   cases i<;>simp only[I.norm]at hc<;>cases hc
   exact(snd_bin S F he hx hy hop h).out
 | makeMap t r=>
  cases r with
  | some r=>simp[zcC,hop]at hc
  | none=>
   simp only[zcC,hop]at hc
   split at hc
   ·rename_i kt et ht
    cases i<;>simp only[I.norm]at hc<;>cases hc
    exact(snd_mkmap S ht hop h).out
   ·cases hc
 | lookup t m k ok=>
  simp only[zcC,hop]at hc
  split at hc
  ·rename_i kt et ht
   simp only[Option.bind_eq_bind,Option.bind_eq_some_iff,Option.pure_def,Option.some.injEq]at hc
   obtain⟨kk,hkk,inf,hi,z,hz,za,hza,m',hm,k',hk',hc⟩:=hc
   cases i<;>simp only[I.norm]at hc<;>cases hc
   exact(snd_mget S F ht hkk hi hz hza hm hk' hop h).out
  ·cases hc
 | mapUpdate t m k x=>
  simp only[zcC,hop]at hc
  split at hc
  ·rename_i kt et ht
   simp only[Option.bind_eq_bind,Option.bind_eq_some_iff,Option.pure_def,Option.some.injEq]at hc
   obtain⟨kk,hkk,m',hm,k',hk',x',hx,hc⟩:=hc
   cases i<;>simp only[I.norm]at hc<;>cases hc
   exact(snd_mset S F ht hkk hm hk' hx (.inl hop) h).out
  ·cases hc
 | insert t m k x=>
  simp only[zcC,hop]at hc
  split at hc
  ·rename_i kt et ht
   simp only[Option.bind_eq_bind,Option.bind_eq_some_iff,Option.pure_def,Option.some.injEq]at hc
   obtain⟨kk,hkk,m',hm,k',hk',x',hx,hc⟩:=hc
   cases i<;>simp only[I.norm]at hc<;>cases hc
   exact(snd_mset S F ht hkk hm hk' hx (.inr hop) h).out
  ·cases hc
 | unOp op t x=>
  simp only[zcC,hop,Option.bind_eq_bind,Option.bind_eq_some_iff,Option.pure_def,Option.some.injEq]at hc
  obtain⟨y,hy,hc⟩:=hc
  cases i<;>simp only[I.norm]at hc<;>cases hc
  exact(snd_un S F hy hop h).out
 | convert src dst x=>
  have hc':=hc
  simp only[zcC,hop]at hc
  have:i.norm=i:=by
   cases i<;>first|rfl|skip
   all_goals
    split at hc<;>first
     | (split at hc<;>first|(simp only[Option.bind_eq_bind,Option.bind_eq_some_iff,Option.pure_def,Option.some.injEq]at hc;obtain⟨_,_,hc⟩:=hc;simp only[I.norm]at hc;cases hc;done)|(cases hc;done))
     | (simp only[Option.bind_eq_bind,Option.bind_eq_some_iff,Option.pure_def,Option.some.injEq]at hc;obtain⟨_,_,hc⟩:=hc;simp only[I.norm]at hc;cases hc;done)
     | (cases hc;done)
  rw[this]at hc'
  exact(snd_conv S F hop hc' h).out
 | slice t x lo hi mx=>
  have hc':=hc
  simp only[zcC,hop]at hc
  have:i.norm=i:=by
   cases i<;>first|rfl|skip
   all_goals
    split at hc
    ·simp only[Option.bind_eq_bind,Option.bind_eq_some_iff,Option.pure_def,Option.some.injEq]at hc
     obtain⟨_,_,_,_,_,_,_,_,hc⟩:=hc;simp only[I.norm]at hc;cases hc
    ·simp only[Option.bind_eq_bind,Option.bind_eq_some_iff,Option.pure_def,Option.some.injEq]at hc
     obtain⟨_,_,_,_,_,_,_,_,_,_,hc⟩:=hc;simp only[I.norm]at hc;cases hc
    ·simp only[Option.bind_eq_bind,Option.bind_eq_some_iff,Option.pure_def,Option.some.injEq]at hc
     obtain⟨_,_,_,_,_,_,_,_,_,_,hc⟩:=hc;simp only[I.norm]at hc;cases hc
    ·cases hc
  rw[this]at hc'
  exact(snd_slc S F hop hc' h).out
 | fieldAddr t x k=>
  have hc':=hc
  simp only[zcC,hop]at hc
  have:i.norm=i:=by
   cases i<;>first|rfl|skip
   all_goals
    split at hc
    ·simp only[Option.bind_eq_bind,Option.bind_eq_some_iff]at hc
     obtain⟨_,_,_,_,hc⟩:=hc
     split at hc
     ·cases hc
     ·simp only[Option.bind_eq_some_iff,Option.pure_def,Option.some.injEq]at hc
      obtain⟨_,_,hc⟩:=hc;simp only[I.norm]at hc;cases hc
    ·cases hc
  rw[this]at hc'
  exact(snd_faddr S F hop hc' h).out
 | field t x k=>
  have hc':=hc
  simp only[zcC,hop]at hc
  have:i.norm=i:=by
   cases i<;>first|rfl|skip
   all_goals
    split at hc
    ·simp only[Option.bind_eq_bind,Option.bind_eq_some_iff,Option.pure_def,Option.some.injEq]at hc
     obtain⟨_,_,_,_,_,_,_,_,hc⟩:=hc;simp only[I.norm]at hc;cases hc
    ·cases hc
  rw[this]at hc'
  exact(snd_field S F hop hc' h).out
 | indexAddr t x y=>
  have hc':=hc
  simp only[zcC,hop]at hc
  have:i.norm=i:=by
   cases i<;>first|rfl|skip
   all_goals
    split at hc
    ·simp only[Option.bind_eq_bind,Option.bind_eq_some_iff,Option.pure_def,Option.some.injEq]at hc
     obtain⟨_,_,_,_,_,_,hc⟩:=hc;simp only[I.norm]at hc;cases hc
    ·simp only[Option.bind_eq_bind,Option.bind_eq_some_iff,Option.pure_def,Option.some.injEq]at hc
     obtain⟨_,_,_,_,_,_,hc⟩:=hc;simp only[I.norm]at hc;cases hc
    ·cases hc
  rw[this]at hc'
  exact(snd_iaddr S F hop hc' h).out
 | index t x y=>
  have hc':=hc
  simp only[zcC,hop]at hc
  have:i.norm=i:=by
   cases i<;>first|rfl|skip
   all_goals
    split at hc
    ·simp only[Option.bind_eq_bind,Option.bind_eq_some_iff,Option.pure_def,Option.some.injEq]at hc
     obtain⟨_,_,_,_,hc⟩:=hc;simp only[I.norm]at hc;cases hc
    ·simp only[Option.bind_eq_bind,Option.bind_eq_some_iff,Option.pure_def,Option.some.injEq]at hc
     obtain⟨_,_,_,_,_,_,_,_,hc⟩:=hc;simp only[I.norm]at hc;cases hc
    ·cases hc
  rw[this]at hc'
  exact(snd_idxA S F hop hc' h).out
 | extract x k=>
  simp only[zcC,hop,Option.bind_eq_bind,Option.bind_eq_some_iff,Option.pure_def,Option.some.injEq]at hc
  obtain⟨y,hy,hc⟩:=hc
  cases i<;>simp only[I.norm]at hc<;>cases hc
  exact(snd_extract S F hy hop h).out
 | range t x=>
  have hc':=hc
  simp only[zcC,hop]at hc
  have:i.norm=i:=by
   cases i<;>first|rfl|skip
   all_goals
    split at hc
    ·simp only[Option.bind_eq_bind,Option.bind_eq_some_iff,Option.pure_def,Option.some.injEq]at hc
     obtain⟨_,_,hc⟩:=hc;simp only[I.norm]at hc;cases hc
    ·simp only[Option.bind_eq_bind,Option.bind_eq_some_iff,Option.pure_def,Option.some.injEq]at hc
     obtain⟨_,_,hc⟩:=hc;simp only[I.norm]at hc;cases hc
    ·cases hc
  rw[this]at hc'
  simp only[zcC,hop]at hc'
  split at hc'
  ·rename_i hs
   exact(snd_rangeS S F hs hop (by simp only[zcC,hop,hs];exact hc') h).out
  ·rename_i hs
   simp only[Option.bind_eq_bind,Option.bind_eq_some_iff,Option.pure_def,Option.some.injEq]at hc'
   obtain⟨y,hy,rfl⟩:=hc'
   exact(snd_rangeM S F hs hy hop h).out
  ·cases hc'
 | entry x=>
  simp only[zcC,hop,Option.bind_eq_bind,Option.bind_eq_some_iff,Option.pure_def,Option.some.injEq]at hc
  obtain⟨y,hy,hc⟩:=hc
  cases i<;>simp only[I.norm]at hc<;>cases hc
  exact(snd_entryM S F hy hop h).out
 | next x s=>
  cases s
  ·simp only[zcC,hop,Option.bind_eq_bind,Option.bind_eq_some_iff,Option.pure_def,Option.some.injEq]at hc
   obtain⟨y,hy,hc⟩:=hc
   cases i<;>simp only[I.norm]at hc<;>cases hc
   exact(snd_nextM S F hy hop h).out
  ·simp only[zcC,hop,Option.bind_eq_bind,Option.bind_eq_some_iff,Option.pure_def,Option.some.injEq]at hc
   obtain⟨y,hy,hc⟩:=hc
   cases i<;>simp only[I.norm]at hc<;>cases hc
   exact(snd_nextS S F hy hop h).out
 | makeFunc f first cap=>
  simp only[zcC,hop,Option.bind_eq_bind,Option.bind_eq_some_iff,Option.pure_def,Option.some.injEq]at hc
  obtain⟨f',hf,c',hcp,hc⟩:=hc
  cases i<;>simp only[I.norm]at hc<;>cases hc
  exact(snd_mkfn S F hf hcp hop h).out
 | call c=>
  simp only[zcC,hop]at hc
  split at hc
  ·rename_i f hcal
   split at hc
   ·rename_i hok
    simp only[Option.bind_eq_bind,Option.bind_eq_some_iff,Option.pure_def,Option.some.injEq]at hc
    obtain⟨args,hargs,hc⟩:=hc
    cases i<;>simp only[I.norm]at hc<;>cases hc
    rename_i raw
    have e1:c.args.map a.eval=(c.args.toList.map a.eval).toArray:=by apply Array.ext';simp
    cases raw
    ·refine zAA (vs:=c.args.toList.map a.eval) ?_ S (zwL F hargs) h
     simp[execOp,hop,resolve,hcal,Act.eval,Deferred.ofValue,invoke,zlk hok,e1]
    ·refine zAA (vs:=c.args.toList.map a.eval) ?_ S (zmy F hargs) h
     simp[execOp,hop,resolve,hcal,Act.eval,Deferred.ofValue,invoke,zlk hok,e1]
   ·cases hc
  ·rename_i x _ hcal
   simp only[Option.bind_eq_bind,Option.bind_eq_some_iff,Option.pure_def,Option.some.injEq]at hc
   obtain⟨g,hg,args,hargs,hc⟩:=hc
   cases i<;>simp only[I.norm]at hc<;>cases hc
   simp only[zaQ,zbc]at h
   have hv:=zU F hg
   split at h
   ·rename_i f first cap hid
    rw[hid]at hv
    obtain⟨fs,cs,hX,r1,r2⟩:=hv.fn_inv
    refine zAA (vs:=fs++c.args.toList.map a.eval++cs) ?_ S ((r1.append (zwL F hargs)).append r2) h
    have e1:c.args.map a.eval=(c.args.toList.map a.eval).toArray:=by apply Array.ext';simp
    simp[execOp,hop,resolve,hcal,hX,Deferred.ofValue,invoke,zlk h.1,e1]
   ·rename_i l hid
    rw[hid]at hv
    obtain⟨fs,cs,hX,r1,r2⟩:=hv.fn_inv
    obtain rfl:fs=[]:=List.eq_nil_of_length_eq_zero r1.1
    obtain rfl:cs=[]:=List.eq_nil_of_length_eq_zero r2.1
    obtain⟨fn,tmps,assign,body,h1,h2⟩:=h L w _ S (zwL F hargs)
    have e1:c.args.map a.eval=(c.args.toList.map a.eval).toArray:=by apply Array.ext';simp
    refine .inr (.inr ⟨l,fn,tmps,assign,body,?_,h2⟩)
    simp[execOp,hop,resolve,hcal,hX,Deferred.ofValue,invoke,e1,h1]
   ·exact h.elim
  ·rename_i hcal
   split at hc
   ·rename_i t x ht hargs
    have key:∀(k:LK) (y:Opd),opd x=some y->i=.len k y->LKok P t k->Outc P o a L σ w K:=fun k y hy hi hp=>by
     subst hi;exact(snd_len S F hop hcal ht hargs hy hp h).out
    split at hc
    ·rename_i hu
     simp only[Option.bind_eq_bind,Option.bind_eq_some_iff,Option.pure_def,Option.some.injEq]at hc
     obtain⟨y,hy,hc⟩:=hc
     exact key .str y hy (by cases i<;>simp only[I.norm]at hc<;>cases hc;rfl) hu
    ·rename_i e hu
     simp only[Option.bind_eq_bind,Option.bind_eq_some_iff,Option.pure_def,Option.some.injEq]at hc
     obtain⟨y,hy,hc⟩:=hc
     exact key .sl y hy (by cases i<;>simp only[I.norm]at hc<;>cases hc;rfl) ⟨e,hu⟩
    ·rename_i n e hu
     simp only[Option.bind_eq_bind,Option.bind_eq_some_iff,Option.pure_def,Option.some.injEq]at hc
     obtain⟨y,hy,hc⟩:=hc
     exact key (.arr n) y hy (by cases i<;>simp only[I.norm]at hc<;>cases hc;rfl) (.inl ⟨e,hu⟩)
    ·simp only[Option.bind_eq_bind,Option.bind_eq_some_iff,Option.pure_def,Option.some.injEq]at hc
     obtain⟨y,hy,hc⟩:=hc
     exact key .map y hy (by cases i<;>simp only[I.norm]at hc<;>cases hc;rfl) ⟨_,_,by assumption⟩
    ·rename_i e hu
     split at hc
     ·rename_i n e' hu'
      simp only[Option.bind_eq_bind,Option.bind_eq_some_iff,Option.pure_def,Option.some.injEq]at hc
      obtain⟨y,hy,hc⟩:=hc
      exact key (.arr n) y hy (by cases i<;>simp only[I.norm]at hc<;>cases hc;rfl) (.inr ⟨e,e',hu,hu'⟩)
     ·cases hc
    ·cases hc
   ·cases hc
  ·rename_i hcal
   split at hc
   ·rename_i t u x y hat hargs
    have key:∀e,P.underlying t=some (.slice e)->((∃e',P.underlying u=some (.slice e'))∨P.underlying u=some .string) →
      (do let s ← sizeOf? P e;let i ← P.info? e;let z ← zsV P e;if 0<s&&z.length==s&&0<i.bytes then pure (I.append false s i.bytes z (← opd x) (← opd y))else none)=some i.norm->Outc P o a L σ w K:=fun e ht hu hc=>by
     simp only[Option.bind_eq_bind,Option.bind_eq_some_iff]at hc;obtain⟨s,hs,inf,hi,z,hz,hc⟩:=hc;split at hc
     ·rename_i hcond;simp only[Bool.and_eq_true,decide_eq_true_eq,beq_iff_eq]at hcond;simp only[Option.bind_eq_some_iff,Option.pure_def,Option.some.injEq]at hc;obtain⟨x',hx,y',hy,hc⟩:=hc;cases i<;>simp only[I.norm]at hc<;>cases hc;rename_i mu;cases mu
      ·exact(snd_append S F hop hcal hat hargs ht hu hs hi hz hcond.1.1 hcond.1.2 hcond.2 rfl hx hy h).out
      ·exact(snd_appendR S F hop hcal hat hargs ht hu hs hi hz hcond.1.1 hcond.1.2 hcond.2 rfl hx hy h).out
     ·cases hc
    split at hc
    ·rename_i e e' ht hu;exact key e ht (.inl ⟨e',hu⟩) hc
    ·rename_i e ht hu;exact key e ht (.inr hu) hc
    ·rename_i e k0 ht hu
     simp only[Option.bind_eq_bind,Option.bind_eq_some_iff]at hc
     obtain⟨s,hs,inf,hi,z,hz,hc⟩:=hc
     split at hc
     ·rename_i hcond
      simp only[Bool.and_eq_true,decide_eq_true_eq,beq_iff_eq]at hcond
      simp only[Option.bind_eq_some_iff,Option.pure_def,Option.some.injEq]at hc
      obtain⟨x',hx,y',hy,hc⟩:=hc
      cases i<;>simp only[I.norm]at hc<;>cases hc
      exact(snd_appz S F hop hcal hat hargs ht hu hs hi hz hcond.1.1 hcond.1.2 hcond.2 rfl hx hy h).out
     ·cases hc
    ·cases hc
   ·cases hc
  ·rename_i hcal
   split at hc
   ·rename_i t m k hat hargs
    split at hc
    ·rename_i kt et ht
     simp only[Option.bind_eq_bind,Option.bind_eq_some_iff,Option.pure_def,Option.some.injEq]at hc
     obtain⟨kk,hkk,m',hm,k',hk',hc⟩:=hc
     cases i<;>simp only[I.norm]at hc<;>cases hc
     exact(snd_mdel S F hop hcal hat hargs ht hkk hm hk' h).out
    ·cases hc
   ·cases hc
  ·rename_i hcal
   split at hc
   ·rename_i t x hat hargs
    split at hc
    ·rename_i e ht
     simp only[Option.bind_eq_bind,Option.bind_eq_some_iff,Option.pure_def,Option.some.injEq]at hc
     obtain⟨x',hx,hc⟩:=hc
     cases i<;>simp only[I.norm]at hc<;>cases hc
     exact(snd_cap S F hop hcal hat hargs ht hx h).out
    ·cases hc
   ·cases hc
  ·rename_i hcal
   simp only[Option.bind_eq_bind,Option.bind_eq_some_iff,Option.pure_def,Option.some.injEq]at hc
   obtain⟨ys,hys,hc⟩:=hc
   cases i<;>simp only[I.norm]at hc<;>cases hc
   exact(snd_max S F hop hcal hys h).out
  ·rename_i hcal
   simp only[Option.bind_eq_bind,Option.bind_eq_some_iff,Option.pure_def,Option.some.injEq]at hc
   obtain⟨ys,hys,hc⟩:=hc
   cases i<;>simp only[I.norm]at hc<;>cases hc
   exact(snd_min S F hop hcal hys h).out
  ·cases hc
 | makeInterface t x=>
  simp only[zcC,hop,Option.some.injEq]at hc
  cases i<;>simp only[I.norm]at hc<;>cases hc
  exact h.elim
 | panic x=>
  simp only[zcC,hop,Option.some.injEq]at hc
  cases i<;>simp only[I.norm]at hc<;>cases hc
  exact h.elim
 | _=>simp[zcC,hop]at hc
abbrev Fr (ro:Option Nat):Fence:={ Fence.wide with round:=ro }
theorem room_fr (ro:Option Nat)(n:Nat):(Fr ro).room n:=fun _ h=>by simp[Fence.wide]at h
theorem zyZ {ro:Option Nat}{n:Nat}{P:Program}{f:FuncId}{args:Array Value}{w:World}{R:Ending->World->Prop}:CallsIn (Fr ro) n P f args w R↔Calls P f args w R:=
 (Iff.rfl:CallsIn (Fr ro) n P f args w R↔CallsIn Fence.wide n P f args w R).trans callsIn_wide
theorem roundIn_fr {ro:Option Nat}{n:Nat}{P:Program}{l:Nat}{f:FuncId}{tmps:Array Value}{assign body:Code}{w:World}{R:Ending->World->Prop}(h:RoundIn Fence.wide 0 P l f tmps assign body w R):RoundIn (Fr ro) n P l f tmps assign body w R:=
 ⟨trivial,fun c cs _=>h.2 c cs (room_wide _)⟩
theorem Outc.wpIn {ro:Option Nat}{n:Nat}(hnd:∀c,o.op≠.defer c)(h:Outc P o a L σ w K){next:Act->World->Prop}{Q:Exit->Act->World->Prop}(hk:After P o a L σ w K next):o.wpIn (Fr ro) n P a w next Q:=by
 unfold Oper.wpIn;refine⟨fun _ _=>trivial,?_⟩;rw[Oper.semAt_eq _ _ _ hnd];rcases h with⟨r,v,L',σ',w',hrun,s,S',hr,hK⟩|⟨f,vs,hrun,hc⟩|⟨l,fn,tmps,assign,body,hrun,hc⟩
 ·rcases hrun with hrun|⟨hrun,rfl⟩
  ·rw[hrun];exact hk r v L' σ' w' s S' hr hK
  ·rw[hrun];exact hk r _ L' σ' w' s S' hr hK
 ·rw[hrun,Oper.uponIn_enter];refine⟨fun h=>by simp[Fence.wide]at h,zyZ.2 (hc.mono fun e w' he=>?_)⟩;cases e with
  | returned v=>
   obtain⟨L',σ',r,s,S',hr,hK⟩:=he
   exact hk r v L' σ' w' s S' hr hK
  | panicked ch=>exact he.elim
  | outgrown=>exact he.elim
 ·rw[hrun,Oper.uponIn_round];refine⟨fun h=>by simp[Fence.wide]at h,roundIn_fr (hc.mono fun e w' he=>?_)⟩;cases e with
  | returned v=>
   obtain⟨L',σ',r,s,S',hr,hK⟩:=he
   exact hk r v L' σ' w' s S' hr hK
  | panicked ch=>exact he.elim
  | outgrown=>exact he.elim
end
variable {P:Program}
theorem YCall.mono {P:Program}{l:Nat}{as0:List AV}{σ:List AObj}{K K':AV->List AObj->Prop}(hk:∀r s,K r s->K' r s)(h:YCall P l as0 σ K):YCall P l as0 σ K':=fun L w vs S hv=>by
 obtain⟨fn,tmps,assign,body,h1,h2⟩:=h L w vs S hv;refine⟨fn,tmps,assign,body,h1,h2.mono fun e w' he=>?_⟩;cases e with
 | returned v=>obtain⟨L',σ',r,s,S',hr,hK⟩:=he;exact⟨L',σ',r,s,S',hr,hk r σ' hK⟩
 | panicked ch=>exact he
 | outgrown=>exact he
theorem ACall.mono0 {f:FuncId}{as0:List AV}{σ:List AObj}{K K':AV->List AObj->Prop}(hk:∀r σ',K r σ'→K' r σ')(h:ACall P f as0 σ K):ACall P f as0 σ K':=
 ⟨h.1,fun L w vs S hv=>Calls.mono (h.2 L w vs S hv) fun e w' he=>by
  cases e with
  | returned v=>obtain⟨L',σ',r,a,b,c,d⟩:=he;exact⟨L',σ',r,a,b,c,hk _ _ d⟩
  | panicked _=>exact he
  | outgrown=>exact he⟩
theorem binA_mono {op:BinOp}{e:EK}{x y:AV}{K K':AV->Prop}(hk:∀a,K a->K' a)(h:zho op e x y K):zho op e x y K':=by
 unfold zho at *;repeat' split at h
 all_goals(first|exact h.elim|exact hk _ h|exact⟨h.1,hk _ h.2⟩|exact⟨h.1,h.2.1,hk _ h.2.2⟩|skip)
 all_goals(simp only[*];try exact⟨h.1,hk _ h.2⟩)
 all_goals grind
theorem boxC_mono (x:AV){σ:List AObj}{K K':KT}(hk:∀a s,K a s->K' a s)(h:zbd x σ K):zbd x σ K':=by
 unfold zbd at *;repeat' split at h
 all_goals(first|exact h.elim|skip)
 all_goals(revert h;try simp only[*,if_true,if_false,Bool.false_eq_true,reduceIte,ite_true,ite_false])
 all_goals(intro h)
 all_goals(repeat (refine⟨h.1,?_⟩;replace h:=h.2))
 all_goals(first|exact hk _ _ h|exact h.elim)
theorem buildC_mono (o:Option (List AV)){σ:List AObj}{K K':KT}(hk:∀a s,K a s->K' a s)(h:zF o σ K):zF o σ K':=by
 unfold zF at *;repeat' split at h
 all_goals(first|exact h.elim|skip)
 all_goals(revert h;try simp only[*,if_true,if_false,Bool.false_eq_true,reduceIte,ite_true,ite_false])
 all_goals(intro h)
 all_goals(repeat (refine⟨h.1,?_⟩;replace h:=h.2))
 all_goals(first|exact hk _ _ h|exact h.elim)
theorem zAe (mu:Bool)(s n:Nat)(o:Option (List AV)){σ:List AObj}{K K':KT}(hk:∀a s,K a s->K' a s)(h:zp mu s n o σ K):zp mu s n o σ K':=by
 unfold zp at *;repeat' split at h
 all_goals(first|exact h.elim|skip)
 all_goals(revert h;try simp only[*,if_true,if_false,Bool.false_eq_true,reduceIte,ite_true,ite_false])
 all_goals(intro h)
 all_goals(repeat (refine⟨h.1,?_⟩;replace h:=h.2))
 all_goals(first|exact hk _ _ h|exact h.elim)
theorem loadC_mono (agg:Bool)(n:Nat)(x:AV){σ:List AObj}{K K':KT}(hk:∀a s,K a s->K' a s)(h:ze agg n x σ K):ze agg n x σ K':=by
 unfold ze at *;repeat' split at h
 all_goals(first|exact h.elim|skip)
 all_goals(revert h;try simp only[*,if_true,if_false,Bool.false_eq_true,reduceIte,ite_true,ite_false])
 all_goals(intro h)
 all_goals(repeat (refine⟨h.1,?_⟩;replace h:=h.2))
 all_goals(first|exact hk _ _ h|exact h.elim)
theorem storeC_mono (n:Nat)(x y:AV){σ:List AObj}{K K':KT}(hk:∀a s,K a s->K' a s)(h:zl n x y σ K):zl n x y σ K':=by
 unfold zl at *;repeat' split at h
 all_goals(first|exact h.elim|skip)
 all_goals(revert h;try simp only[*,if_true,if_false,Bool.false_eq_true,reduceIte,ite_true,ite_false])
 all_goals(intro h)
 all_goals(repeat (refine⟨h.1,?_⟩;replace h:=h.2))
 all_goals(first|exact hk _ _ h|exact h.elim)
theorem nilC_mono (x:AV){σ:List AObj}{K K':KT}(hk:∀a s,K a s->K' a s)(h:zbg x σ K):zbg x σ K':=by
 unfold zbg at *;repeat' split at h
 all_goals(first|exact h.elim|skip)
 all_goals(revert h;try simp only[*,if_true,if_false,Bool.false_eq_true,reduceIte,ite_true,ite_false])
 all_goals(intro h)
 all_goals(repeat (refine⟨h.1,?_⟩;replace h:=h.2))
 all_goals(first|exact hk _ _ h|exact h.elim)
theorem convC_mono (c:CK)(x:AV){σ:List AObj}{K K':KT}(hk:∀a s,K a s->K' a s)(h:zaw c x σ K):zaw c x σ K':=by
 unfold zaw at *;repeat' split at h
 all_goals(first|exact h.elim|skip)
 all_goals(revert h;try simp only[*,if_true,if_false,Bool.false_eq_true,reduceIte,ite_true,ite_false])
 all_goals(intro h)
 all_goals(repeat (refine⟨h.1,?_⟩;replace h:=h.2))
 all_goals(first|exact hk _ _ h|exact h.elim)
theorem slcC_mono (k:SK)(x:AV)(lo hi mx:Option AV){σ:List AObj}{K K':KT}(hk:∀a s,K a s->K' a s)(h:zgy k x lo hi mx σ K):zgy k x lo hi mx σ K':=by
 unfold zgy at *;repeat' split at h
 all_goals(first|exact h.elim|skip)
 all_goals(revert h;try simp only[*,if_true,if_false,Bool.false_eq_true,reduceIte,ite_true,ite_false])
 all_goals(intro h)
 all_goals(repeat (refine⟨h.1,?_⟩;replace h:=h.2))
 all_goals(first|exact hk _ _ h|exact h.elim)
theorem faddrC_mono (off:Nat)(x:AV){σ:List AObj}{K K':KT}(hk:∀a s,K a s->K' a s)(h:zc off x σ K):zc off x σ K':=by
 unfold zc at *;repeat' split at h
 all_goals(first|exact h.elim|skip)
 all_goals(revert h;try simp only[*,if_true,if_false,Bool.false_eq_true,reduceIte,ite_true,ite_false])
 all_goals(intro h)
 all_goals(repeat (refine⟨h.1,?_⟩;replace h:=h.2))
 all_goals(first|exact hk _ _ h|exact h.elim)
theorem fieldC_mono (agg:Bool)(off n:Nat)(x:AV){σ:List AObj}{K K':KT}(hk:∀a s,K a s->K' a s)(h:zaV agg off n x σ K):zaV agg off n x σ K':=by
 unfold zaV at *;repeat' split at h
 all_goals(first|exact h.elim|skip)
 all_goals(revert h;try simp only[*,if_true,if_false,Bool.false_eq_true,reduceIte,ite_true,ite_false])
 all_goals(intro h)
 all_goals(repeat (refine⟨h.1,?_⟩;replace h:=h.2))
 all_goals(first|exact hk _ _ h|exact h.elim)
theorem iaddrC_mono (arr:Option Nat)(sz:Nat)(x i:AV){σ:List AObj}{K K':KT}(hk:∀a s,K a s->K' a s)(h:zN arr sz x i σ K):zN arr sz x i σ K':=by
 unfold zN at *;repeat' split at h
 all_goals(first|exact h.elim|skip)
 all_goals(revert h;try simp only[*,if_true,if_false,Bool.false_eq_true,reduceIte,ite_true,ite_false])
 all_goals(intro h)
 all_goals(repeat (refine⟨h.1,?_⟩;replace h:=h.2))
 all_goals(first|exact hk _ _ h|exact h.elim)
theorem idxSC_mono (x i:AV){σ:List AObj}{K K':KT}(hk:∀a s,K a s->K' a s)(h:zbS x i σ K):zbS x i σ K':=by
 unfold zbS at *;repeat' split at h
 all_goals(first|exact h.elim|skip)
 all_goals(revert h;try simp only[*,if_true,if_false,Bool.false_eq_true,reduceIte,ite_true,ite_false])
 all_goals(intro h)
 all_goals(repeat (refine⟨h.1,?_⟩;replace h:=h.2))
 all_goals(first|exact hk _ _ h|exact h.elim)
theorem idxAC_mono (agg:Bool)(n sz:Nat)(x i:AV){σ:List AObj}{K K':KT}(hk:∀a s,K a s->K' a s)(h:zcl agg n sz x i σ K):zcl agg n sz x i σ K':=by
 unfold zcl at *;repeat' split at h
 all_goals(first|exact h.elim|skip)
 all_goals(revert h;try simp only[*,if_true,if_false,Bool.false_eq_true,reduceIte,ite_true,ite_false])
 all_goals(intro h)
 all_goals(repeat (refine⟨h.1,?_⟩;replace h:=h.2))
 all_goals(first|exact hk _ _ h|exact h.elim)
theorem zAq (x:AV)(k:Nat){σ:List AObj}{K K':KT}(hk:∀a s,K a s->K' a s)(h:zf x k σ K):zf x k σ K':=by
 unfold zf at *;repeat' split at h
 all_goals(first|exact h.elim|skip)
 all_goals(revert h;try simp only[*,if_true,if_false,Bool.false_eq_true,reduceIte,ite_true,ite_false])
 all_goals(intro h)
 all_goals(repeat (refine⟨h.1,?_⟩;replace h:=h.2))
 all_goals(first|exact hk _ _ h|exact h.elim)
theorem lenC_mono (k:LK)(x:AV){σ:List AObj}{K K':KT}(hk:∀a s,K a s->K' a s)(h:zah k x σ K):zah k x σ K':=by
 unfold zah at *;repeat' split at h
 all_goals(first|exact h.elim|skip)
 all_goals(revert h;try simp only[*,if_true,if_false,Bool.false_eq_true,reduceIte,ite_true,ite_false])
 all_goals(intro h)
 all_goals(repeat (refine⟨h.1,?_⟩;replace h:=h.2))
 all_goals(first|exact hk _ _ h|exact h.elim)
theorem appendC_mono (sz bytes:Nat)(x y:AV){σ:List AObj}{K K':KT}(hk:∀a s,K a s->K' a s)(h:zM sz bytes x y σ K):zM sz bytes x y σ K':=by
 unfold zM at *;repeat' split at h
 all_goals(first|exact h.elim|skip)
 all_goals(revert h;try simp only[*,if_true,if_false,Bool.false_eq_true,reduceIte,ite_true,ite_false])
 all_goals(intro h)
 all_goals(repeat (refine⟨h.1,?_⟩;replace h:=h.2))
 all_goals(first|exact hk _ _ h|exact h.elim)
theorem ztt (sz bytes:Nat)(x:AV)(m:Nat)(ys:List AV){σ:List AObj}{K K':KT}(hk:∀a s,K a s->K' a s)(h:zuU sz bytes x m ys σ K):zuU sz bytes x m ys σ K':=by
 unfold zuU at *;repeat' split at h
 all_goals(first|exact h.elim|skip)
 all_goals(revert h;try simp only[*,if_true,if_false,Bool.false_eq_true,reduceIte,ite_true,ite_false])
 all_goals(intro h)
 all_goals(repeat (refine⟨h.1,?_⟩;replace h:=h.2))
 all_goals(first|exact hk _ _ h|exact h.elim)
theorem zAQ (sz bytes:Nat)(x y:AV){σ:List AObj}{K K':KT}(hk:∀a s,K a s->K' a s)(h:zhP sz bytes x y σ K):zhP sz bytes x y σ K':=by
 unfold zhP at *;split at h
 ·split at h
  ·exact⟨h.1,h.2.1,h.2.2.1,ztt _ _ _ _ _ hk h.2.2.2⟩
  ·exact h.elim
 ·split at h
  ·exact⟨h.1,ztt _ _ _ _ _ hk h.2⟩
  ·exact h.elim
theorem capC_mono (x:AV){σ:List AObj}{K K':KT}(hk:∀a s,K a s->K' a s)(h:capC x σ K):capC x σ K':=by
 unfold capC at *;split at h
 ·exact hk _ _ h
 ·exact h.elim
theorem appzC_mono (sz bytes:Nat)(z:List AV)(x n:AV){σ:List AObj}{K K':KT}(hk:∀a s,K a s->K' a s)(h:appzC sz bytes z x n σ K):appzC sz bytes z x n σ K':=by
 unfold appzC at *;split at h
 ·exact⟨h.1,ztt _ _ _ _ _ hk h.2⟩
 ·exact h.elim
theorem maxC_mono (xs:List AV){σ:List AObj}{K K':KT}(hk:∀a s,K a s->K' a s)(h:zgF xs σ K):zgF xs σ K':=by
 unfold zgF at *;repeat' split at h
 all_goals(first|exact h.elim|skip)
 all_goals(revert h;try simp only[*,if_true,if_false,Bool.false_eq_true,reduceIte,ite_true,ite_false])
 all_goals(intro h)
 all_goals(repeat (refine⟨h.1,?_⟩;replace h:=h.2))
 all_goals(first|exact hk _ _ h|exact h.elim)
theorem minC_mono (xs:List AV){σ:List AObj}{K K':KT}(hk:∀a s,K a s->K' a s)(h:zhG xs σ K):zhG xs σ K':=by
 unfold zhG at *;repeat' split at h
 all_goals(first|exact h.elim|skip)
 all_goals(revert h;try simp only[*,if_true,if_false,Bool.false_eq_true,reduceIte,ite_true,ite_false])
 all_goals(intro h)
 all_goals(repeat (refine⟨h.1,?_⟩;replace h:=h.2))
 all_goals(first|exact hk _ _ h|exact h.elim)
theorem rangeC_mono (x:AV){σ:List AObj}{K K':KT}(hk:∀a s,K a s->K' a s)(h:zbb x σ K):zbb x σ K':=by
 unfold zbb at *;repeat' split at h
 all_goals(first|exact h.elim|skip)
 all_goals(revert h;try simp only[*,if_true,if_false,Bool.false_eq_true,reduceIte,ite_true,ite_false])
 all_goals(intro h)
 all_goals(repeat (refine⟨h.1,?_⟩;replace h:=h.2))
 all_goals(first|exact hk _ _ h|exact h.elim)
theorem rangeMC_mono (x:AV){σ:List AObj}{K K':KT}(hk:∀a s,K a s->K' a s)(h:zlV x σ K):zlV x σ K':=by
 unfold zlV at *;split at h
 ·split at h
  ·exact fun c bs h1 h2=>hk _ _ (h c bs h1 h2)
  ·exact h.elim
 ·exact hk _ _ h
 ·exact h.elim
theorem nextMC_mono (x:AV){σ:List AObj}{K K':KT}(hk:∀a s,K a s->K' a s)(h:zqr x σ K):zqr x σ K':=by
 unfold zqr at *;split at h
 ·split at h
  ·exact hk _ _ h
  ·split at h
   ·exact⟨h.1,fun h0=>hk _ _ (h.2.1 h0),fun i b e h1 h2 h3=>hk _ _ (h.2.2 i b e h1 h2 h3)⟩
   ·exact h.elim
  ·exact h.elim
 ·exact h.elim
theorem entryMC_mono (x:AV){σ:List AObj}{K K':KT}(hk:∀a s,K a s->K' a s)(h:znn x σ K):znn x σ K':=by
 unfold znn at *;split at h
 ·split at h
  ·split at h
   ·obtain⟨h0,i,b,e,h1,h2,h3,h4⟩:=h;exact⟨h0,i,b,e,h1,h2,h3,hk _ _ h4⟩
   ·exact h.elim
  ·exact h.elim
 ·exact h.elim
theorem nextC_mono (x:AV){σ:List AObj}{K K':KT}(hk:∀a s,K a s->K' a s)(h:zrZ x σ K):zrZ x σ K':=by
 unfold zrZ at *;repeat' split at h
 all_goals(first|exact h.elim|skip)
 all_goals(revert h;try simp only[*,if_true,if_false,Bool.false_eq_true,reduceIte,ite_true,ite_false])
 all_goals(intro h)
 all_goals(repeat (refine⟨h.1,?_⟩;replace h:=h.2))
 all_goals(first|exact hk _ _ h|exact h.elim)
theorem isnilC_mono (neg:Bool)(x:AV){σ:List AObj}{K K':KT}(hk:∀a s,K a s->K' a s)(h:zaB neg x σ K):zaB neg x σ K':=by
 unfold zaB at *;repeat' split at h
 all_goals(first|exact h.elim|exact⟨hk _ _ h.1,hk _ _ h.2⟩|exact hk _ _ h|exact⟨fun e=>⟨hk _ _ (h.1 e).1,hk _ _ (h.1 e).2⟩,fun e=>hk _ _ (h.2 e)⟩)
theorem mgetC_mono (kk:KK)(ok:Bool)(z m k:AV){σ:List AObj}{K K':KT}(hk:∀a s,K a s->K' a s)(h:zcf kk ok z m k σ K):zcf kk ok z m k σ K':=by
 unfold zcf at *;split at h
 ·refine⟨h.1,?_⟩;replace h:=h.2;split at h<;>first|exact hk _ _ h|exact h.elim
 ·exact h.elim
theorem msetC_mono (kk:KK)(m k x:AV){σ:List AObj}{K K':KT}(hk:∀a s,K a s->K' a s)(h:zcz kk m k x σ K):zcz kk m k x σ K':=by
 unfold zcz at *;split at h
 ·split at h
  ·refine⟨h.1,?_⟩;replace h:=h.2;split at h<;>first|exact hk _ _ h|exact h.elim
  ·exact h.elim
 ·exact h.elim
theorem mdelC_mono (kk:KK)(m k:AV){σ:List AObj}{K K':KT}(hk:∀a s,K a s->K' a s)(h:zdj kk m k σ K):zdj kk m k σ K':=by
 unfold zdj at *;split at h
 ·split at h
  ·refine⟨h.1,?_⟩;replace h:=h.2;split at h<;>first|exact hk _ _ h|exact h.elim
  ·refine⟨h.1,?_⟩;replace h:=h.2;split at h<;>first|exact hk _ _ h|exact h.elim
  ·exact h.elim
 ·exact⟨h.1,hk _ _ h.2⟩
 ·exact h.elim
theorem zzm {i:I}{fr:zW}{σ:List AObj}{K K':KT}(hk:∀a s,K a s->K' a s)(h:zaQ P i fr σ K):zaQ P i fr σ K':=by
 cases i<;>simp only[zaQ]at h ⊢;case mv=>exact hk _ _ h
 case nilc=>exact hk _ _ h
 case pick=>unfold zxL at *;split at h<;>first|exact⟨fun e=>hk _ _ (h.1 e),fun e=>hk _ _ (h.2 e)⟩|exact h
 case alloc=>exact hk _ _ h
 case boxi=>exact boxC_mono _ hk h
 case build=>exact buildC_mono _ hk h
 case mkslice=>exact zAe _ _ _ _ hk h
 case load=>exact loadC_mono _ _ _ hk h
 case store=>exact storeC_mono _ _ _ hk h
 case nilchk=>exact nilC_mono _ hk h
 case bin=>exact binA_mono (fun a=>hk a σ) h
 case un=>unfold unA at *;split at h<;>first|exact hk _ _ h|exact h
 case conv=>exact convC_mono _ _ hk h
 case slc=>exact slcC_mono _ _ _ _ _ hk h
 case faddr=>exact faddrC_mono _ _ hk h
 case field=>exact fieldC_mono _ _ _ _ hk h
 case iaddr=>exact iaddrC_mono _ _ _ _ hk h
 case idxS=>exact idxSC_mono _ _ hk h
 case idxA=>exact idxAC_mono _ _ _ _ _ hk h
 case extract=>exact zAq _ _ hk h
 case len=>exact lenC_mono _ _ hk h
 case append mu _ _ _ _ _=>
  cases mu
  ·exact appendC_mono _ _ _ _ hk h
  ·exact zAQ _ _ _ _ hk h
 case maxi=>exact maxC_mono _ hk h
 case mini=>exact minC_mono _ hk h
 case rangeS=>exact rangeC_mono _ hk h
 case nextS=>exact nextC_mono _ hk h
 case rangeM=>exact rangeMC_mono _ hk h
 case nextM=>exact nextMC_mono _ hk h
 case entryM=>exact entryMC_mono _ hk h
 case isnil=>exact isnilC_mono _ _ hk h
 case mkmap=>exact hk _ _ h
 case mget=>exact mgetC_mono _ _ _ _ _ hk h
 case mset=>exact msetC_mono _ _ _ _ hk h
 case mdel=>exact mdelC_mono _ _ _ hk h
 case call raw _ _=>cases raw<;>exact ACall.mono0 hk h
 case callv=>unfold zbc at *;split at h<;>first|exact ACall.mono0 hk h|exact YCall.mono hk h|exact h
 case mkfn=>exact hk _ _ h
 case cap=>exact capC_mono _ hk h
 case appz=>exact appzC_mono _ _ _ _ _ hk h
def Opd.slots:Opd->List Nat
 | .tmp t=>[t]
 | .lit _=>[]
def osl:Option Opd->List Nat
 | some x=>x.slots
 | none=>[]
def lsl (l:List Opd):List Nat:=l.flatMap Opd.slots
def psl (l:List (Nat × Nat × Opd)):List Nat:=l.flatMap fun p=>p.2.2.slots
def I.reads:I->List Nat
 | .mv x|.boxi x|.load _ _ x|.nilchk x|.un _ x|.conv _ x|.faddr _ x|.field _ _ _ x|.extract x _|.len _ x|.rangeS x|.nextS x|.rangeM x|.nextM x|.entryM x|.isnil _ x|.cap x=>x.slots
 | .bad=>[]
 | .nilc=>[]
 | .appz _ _ _ x n=>x.slots++n.slots
 | .mkmap=>[]
 | .mget _ _ _ m k=>m.slots++k.slots
 | .mset _ m k x=>m.slots++k.slots++x.slots
 | .mdel _ m k=>m.slots++k.slots
 | .pick c a b=>c.slots++a.slots++b.slots
 | .alloc _=>[]
 | .build _ ps=>psl ps
 | .mkslice _ _ _ _ ps=>psl ps
 | .store _ a x=>a.slots++x.slots
 | .bin _ _ x y=>x.slots++y.slots
 | .slc _ x lo hi mx=>x.slots++osl lo++osl hi++osl mx
 | .iaddr _ _ x i=>x.slots++i.slots
 | .idxS x i=>x.slots++i.slots
 | .idxA _ _ _ x i=>x.slots++i.slots
 | .append _ _ _ _ x y=>x.slots++y.slots
 | .maxi xs=>lsl xs
 | .mini xs=>lsl xs
 | .call _ _ xs=>lsl xs
 | .callv f xs=>f.slots++lsl xs
 | .mkfn _ xs ys=>lsl xs++lsl ys
def Ai.reads (x:Ai):List Nat:=
 match x.g with
 | some (s,_)=>s::x.i.reads
 | none=>x.i.reads
theorem zbF {fr fr':zW}{x:Opd}(h:∀t∈x.slots,zhn fr t=zhn fr' t):ev fr x=ev fr' x:=by
 cases x with
 | tmp t=>exact h t (by simp[Opd.slots])
 | lit a=>rfl
theorem oev_ext {fr fr':zW}{x:Option Opd}(h:∀t∈osl x,zhn fr t=zhn fr' t):x.map (ev fr)=x.map (ev fr'):=by
 cases x with
 | none=>rfl
 | some x=>simp only[Option.map_some];rw[zbF h]
theorem zrf {fr fr':zW}{l:List Opd}(h:∀t∈lsl l,zhn fr t=zhn fr' t):l.map (ev fr)=l.map (ev fr'):=
 List.map_congr_left fun x hx=>zbF fun t ht=>h t (List.mem_flatMap.2 ⟨x,hx,ht⟩)
theorem zwq {fr fr':zW}:∀ {l:List (Nat × Nat × Opd)} {cs:List AV},(∀t∈psl l,zhn fr t=zhn fr' t)->zuV fr cs l=zuV fr' cs l
 | [],_,_=>rfl
 | (off,s,x)::l,cs,h=>by
  have e:ev fr x=ev fr' x:=zbF fun t ht=>h t (by simp[psl,ht]);simp only[zuV];rw[e];split
  ·split
   ·exact zwq fun t ht=>h t (by simp only[psl,List.flatMap_cons,List.mem_append]at ht ⊢;exact .inr ht)
   ·rfl
  ·rfl
theorem zsF {i:I}{fr fr':zW}{σ:List AObj}{K:KT}(h:∀t∈i.reads,zhn fr t=zhn fr' t):zaQ P i fr σ K=zaQ P i fr' σ K:=by
 cases i<;>simp only[zaQ,I.reads,List.mem_append]at h ⊢;case mv x=>rw[zbF h]
 case boxi x=>rw[zbF h]
 case load x=>rw[zbF h]
 case nilchk x=>rw[zbF h]
 case un x=>rw[zbF h]
 case conv x=>rw[zbF h]
 case faddr x=>rw[zbF h]
 case field x=>rw[zbF h]
 case extract x=>rw[zbF h]
 case len x=>rw[zbF h]
 case rangeS x=>rw[zbF h]
 case nextS x=>rw[zbF h]
 case rangeM x=>rw[zbF h]
 case nextM x=>rw[zbF h]
 case entryM x=>rw[zbF h]
 case isnil x=>rw[zbF h]
 case cap x=>rw[zbF h]
 case appz x n=>rw[zbF (x:=x) fun t ht=>h t (.inl ht),zbF (x:=n) fun t ht=>h t (.inr ht)]
 case mget m k=>rw[zbF (x:=m) fun t ht=>h t (.inl ht),zbF (x:=k) fun t ht=>h t (.inr ht)]
 case mset m k x=>rw[zbF (x:=m) fun t ht=>h t (.inl (.inl ht)),zbF (x:=k) fun t ht=>h t (.inl (.inr ht)),zbF (x:=x) fun t ht=>h t (.inr ht)]
 case mdel m k=>rw[zbF (x:=m) fun t ht=>h t (.inl ht),zbF (x:=k) fun t ht=>h t (.inr ht)]
 case pick c a b=>rw[zbF (x:=c) fun t ht=>h t (.inl (.inl ht)),zbF (x:=a) fun t ht=>h t (.inl (.inr ht)),zbF (x:=b) fun t ht=>h t (.inr ht)]
 case build=>rw[zwq h]
 case mkslice=>rw[zwq h]
 case store a x=>rw[zbF (x:=a) fun t ht=>h t (.inl ht),zbF (x:=x) fun t ht=>h t (.inr ht)]
 case bin x y=>rw[zbF (x:=x) fun t ht=>h t (.inl ht),zbF (x:=y) fun t ht=>h t (.inr ht)]
 case slc x lo hi mx=>rw[zbF (x:=x) fun t ht=>h t (.inl (.inl (.inl ht))),oev_ext (x:=lo) fun t ht=>h t (.inl (.inl (.inr ht))),oev_ext (x:=hi) fun t ht=>h t (.inl (.inr ht)),oev_ext (x:=mx) fun t ht=>h t (.inr ht)]
 case iaddr x y=>rw[zbF (x:=x) fun t ht=>h t (.inl ht),zbF (x:=y) fun t ht=>h t (.inr ht)]
 case idxS x y=>rw[zbF (x:=x) fun t ht=>h t (.inl ht),zbF (x:=y) fun t ht=>h t (.inr ht)]
 case idxA x y=>rw[zbF (x:=x) fun t ht=>h t (.inl ht),zbF (x:=y) fun t ht=>h t (.inr ht)]
 case append x y=>rw[zbF (x:=x) fun t ht=>h t (.inl ht),zbF (x:=y) fun t ht=>h t (.inr ht)]
 case maxi=>rw[zrf h]
 case mini=>rw[zrf h]
 case call raw f xs=>
  have:xs.map (fun x=>dm (ev fr x))=xs.map (fun x=>dm (ev fr' x)):=by
   have:=congrArg (List.map dm) (zrf h);simpa [List.map_map,Function.comp_def] using this
  rw[this,zrf h]
 case callv f xs=>
  have:xs.map (fun x=>dm (ev fr x))=xs.map (fun x=>dm (ev fr' x)):=by
   have:=congrArg (List.map dm) (zrf (l:=xs) fun t ht=>h t (.inr ht));simpa [List.map_map,Function.comp_def] using this
  rw[this,zbF (x:=f) fun t ht=>h t (.inl ht)]
 case mkfn f xs ys=>rw[zrf (l:=xs) fun t ht=>h t (.inl ht),zrf (l:=ys) fun t ht=>h t (.inr ht)]
def I.quiet:I->Bool
 | .mv _|.pick .. | .build .. | .mkslice false .. | .load .. | .nilchk _|.bin .. | .un .. | .conv .. | .slc .. | .faddr .. | .field .. | .iaddr .. | .idxS .. | .idxA .. | .extract .. | .maxi _|.mini _|.mget ..=>true
 | .len k _=>match k with|.map=>false|_=>true
 | _=>false
def I.at?:I->Option Opd
 | .load _ _ x=>some x
 | .mget _ _ _ m _=>some m
 | _=>none
def keepO (a:AV) (σ σ':List AObj):Prop:=
 match a with
 | .box id _=>σ'[id]? = σ[id]?
 | .map id=>σ'[id]? = σ[id]?
 | .rpt t _ _=>σ'[t]? = σ[t]?
 | _=>True
theorem binA_quiet {op:BinOp}{e:EK}{x y:AV}{K:AV->Prop}(h:zho op e x y K):∃v,K v/\∀K':AV->Prop,K' v->zho op e x y K':=by
 unfold zho at *;repeat' split at h
 all_goals(first|exact h.elim|exact h.2.elim|exact⟨_,h,fun _ h'=>h'⟩|exact⟨_,h.2,fun _ h'=>⟨h.1,h'⟩⟩|exact⟨_,h.2.2,fun _ h'=>⟨h.1,h.2.1,h'⟩⟩|skip)
 all_goals(simp only[*]at h ⊢)
 all_goals(first|exact⟨_,h,fun _ h'=>h'⟩|exact⟨_,h.2,fun _ h'=>⟨h.1,h'⟩⟩|skip)
theorem qtE {A B:Prop}(h:A)(e:A->B:=by clear h;intro h;repeat' split at h;all_goals(first|exact h.elim|skip);all_goals(revert h;try simp only[*,if_true,if_false,Bool.false_eq_true,reduceIte,ite_true,ite_false]);all_goals(intro h);all_goals(first|exact h.2.elim|exact h.2.2.elim|exact⟨_,h,fun _ _ h'=>h'⟩|exact⟨_,h.2,fun _ _ h'=>⟨h.1,h'⟩⟩|exact⟨_,h.2.2,fun _ _ h'=>⟨h.1,h.2.1,h'⟩⟩|exact⟨_,h.2.2.2,fun _ _ h'=>⟨h.1,h.2.1,h.2.2.1,h'⟩⟩|exact⟨_,h.2.2.2.2,fun _ _ h'=>⟨h.1,h.2.1,h.2.2.1,h.2.2.2.1,h'⟩⟩|exact⟨_,h.2.2.2.2.2,fun _ _ h'=>⟨h.1,h.2.1,h.2.2.1,h.2.2.2.1,h.2.2.2.2.1,h'⟩⟩|exact⟨_,h.2.2.2.2.2.2,fun _ _ h'=>⟨h.1,h.2.1,h.2.2.1,h.2.2.2.1,h.2.2.2.2.1,h.2.2.2.2.2.1,h'⟩⟩)):B:=e h
theorem buildC_quiet (o:Option (List AV)){σ:List AObj}{K:KT}(h:zF o σ K):∃v,K v σ/\∀(σ':List AObj) (K':KT),K' v σ'→zF o σ' K':=by
 unfold zF at *;exact qtE h
theorem nilC_quiet (x:AV){σ:List AObj}{K:KT}(h:zbg x σ K):∃v,K v σ/\∀(σ':List AObj) (K':KT),K' v σ'→zbg x σ' K':=by
 unfold zbg at *;exact qtE h
theorem convC_quiet (c:CK)(x:AV){σ:List AObj}{K:KT}(h:zaw c x σ K):∃v,K v σ/\∀(σ':List AObj) (K':KT),K' v σ'→zaw c x σ' K':=by
 unfold zaw at *;repeat' split at h
 all_goals(first|exact h.elim|skip)
 all_goals(revert h;try simp only[*,if_true,if_false,Bool.false_eq_true,reduceIte,ite_true,ite_false])
 all_goals(intro h)
 all_goals(first|exact h.2.elim|exact h.2.2.elim|exact⟨_,h,fun _ _ h'=>h'⟩|exact⟨_,h.2,fun _ _ h'=>⟨h.1,h'⟩⟩|exact⟨_,h.2.2,fun _ _ h'=>⟨h.1,h.2.1,h'⟩⟩|exact⟨_,h.2.2.2,fun _ _ h'=>⟨h.1,h.2.1,h.2.2.1,h'⟩⟩|exact⟨_,h.2.2.2.2,fun _ _ h'=>⟨h.1,h.2.1,h.2.2.1,h.2.2.2.1,h'⟩⟩|exact⟨_,h.2.2.2.2.2,fun _ _ h'=>⟨h.1,h.2.1,h.2.2.1,h.2.2.2.1,h.2.2.2.2.1,h'⟩⟩|exact⟨_,h.2.2.2.2.2.2,fun _ _ h'=>⟨h.1,h.2.1,h.2.2.1,h.2.2.2.1,h.2.2.2.2.1,h.2.2.2.2.2.1,h'⟩⟩)
theorem slcC_quiet (k:SK)(x:AV)(lo hi mx:Option AV){σ:List AObj}{K:KT}(h:zgy k x lo hi mx σ K):∃v,K v σ/\∀(σ':List AObj) (K':KT),K' v σ'→zgy k x lo hi mx σ' K':=by
 unfold zgy at *;repeat' split at h
 all_goals(first|exact h.elim|skip)
 all_goals(revert h;try simp only[*,if_true,if_false,Bool.false_eq_true,reduceIte,ite_true,ite_false])
 all_goals(intro h)
 all_goals(first|exact h.2.elim|exact h.2.2.elim|exact⟨_,h,fun _ _ h'=>h'⟩|exact⟨_,h.2,fun _ _ h'=>⟨h.1,h'⟩⟩|exact⟨_,h.2.2,fun _ _ h'=>⟨h.1,h.2.1,h'⟩⟩|exact⟨_,h.2.2.2,fun _ _ h'=>⟨h.1,h.2.1,h.2.2.1,h'⟩⟩|exact⟨_,h.2.2.2.2,fun _ _ h'=>⟨h.1,h.2.1,h.2.2.1,h.2.2.2.1,h'⟩⟩|exact⟨_,h.2.2.2.2.2,fun _ _ h'=>⟨h.1,h.2.1,h.2.2.1,h.2.2.2.1,h.2.2.2.2.1,h'⟩⟩|exact⟨_,h.2.2.2.2.2.2,fun _ _ h'=>⟨h.1,h.2.1,h.2.2.1,h.2.2.2.1,h.2.2.2.2.1,h.2.2.2.2.2.1,h'⟩⟩)
theorem faddrC_quiet (off:Nat)(x:AV){σ:List AObj}{K:KT}(h:zc off x σ K):∃v,K v σ/\∀(σ':List AObj) (K':KT),K' v σ'→zc off x σ' K':=by
 unfold zc at *;exact qtE h
theorem fieldC_quiet (agg:Bool)(off n:Nat)(x:AV){σ:List AObj}{K:KT}(h:zaV agg off n x σ K):∃v,K v σ/\∀(σ':List AObj) (K':KT),K' v σ'→zaV agg off n x σ' K':=by
 unfold zaV at *;repeat' split at h
 all_goals(first|exact h.elim|skip)
 all_goals(revert h;try simp only[*,if_true,if_false,Bool.false_eq_true,reduceIte,ite_true,ite_false])
 all_goals(intro h)
 all_goals(first|exact h.2.elim|exact h.2.2.elim|exact⟨_,h,fun _ _ h'=>h'⟩|exact⟨_,h.2,fun _ _ h'=>⟨h.1,h'⟩⟩|exact⟨_,h.2.2,fun _ _ h'=>⟨h.1,h.2.1,h'⟩⟩|exact⟨_,h.2.2.2,fun _ _ h'=>⟨h.1,h.2.1,h.2.2.1,h'⟩⟩|exact⟨_,h.2.2.2.2,fun _ _ h'=>⟨h.1,h.2.1,h.2.2.1,h.2.2.2.1,h'⟩⟩|exact⟨_,h.2.2.2.2.2,fun _ _ h'=>⟨h.1,h.2.1,h.2.2.1,h.2.2.2.1,h.2.2.2.2.1,h'⟩⟩|exact⟨_,h.2.2.2.2.2.2,fun _ _ h'=>⟨h.1,h.2.1,h.2.2.1,h.2.2.2.1,h.2.2.2.2.1,h.2.2.2.2.2.1,h'⟩⟩)
theorem iaddrC_quiet (arr:Option Nat)(sz:Nat)(x i:AV){σ:List AObj}{K:KT}(h:zN arr sz x i σ K):∃v,K v σ/\∀(σ':List AObj) (K':KT),K' v σ'→zN arr sz x i σ' K':=by
 unfold zN at *;repeat' split at h
 all_goals(first|exact h.elim|skip)
 all_goals(revert h;try simp only[*,if_true,if_false,Bool.false_eq_true,reduceIte,ite_true,ite_false])
 all_goals(intro h)
 all_goals(first|exact h.2.elim|exact h.2.2.elim|exact⟨_,h,fun _ _ h'=>h'⟩|exact⟨_,h.2,fun _ _ h'=>⟨h.1,h'⟩⟩|exact⟨_,h.2.2,fun _ _ h'=>⟨h.1,h.2.1,h'⟩⟩|exact⟨_,h.2.2.2,fun _ _ h'=>⟨h.1,h.2.1,h.2.2.1,h'⟩⟩|exact⟨_,h.2.2.2.2,fun _ _ h'=>⟨h.1,h.2.1,h.2.2.1,h.2.2.2.1,h'⟩⟩|exact⟨_,h.2.2.2.2.2,fun _ _ h'=>⟨h.1,h.2.1,h.2.2.1,h.2.2.2.1,h.2.2.2.2.1,h'⟩⟩|exact⟨_,h.2.2.2.2.2.2,fun _ _ h'=>⟨h.1,h.2.1,h.2.2.1,h.2.2.2.1,h.2.2.2.2.1,h.2.2.2.2.2.1,h'⟩⟩)
theorem idxSC_quiet (x i:AV){σ:List AObj}{K:KT}(h:zbS x i σ K):∃v,K v σ/\∀(σ':List AObj) (K':KT),K' v σ'→zbS x i σ' K':=by
 unfold zbS at *;repeat' split at h
 all_goals(first|exact h.elim|skip)
 all_goals(revert h;try simp only[*,if_true,if_false,Bool.false_eq_true,reduceIte,ite_true,ite_false])
 all_goals(intro h)
 all_goals(first|exact h.2.elim|exact h.2.2.elim|exact⟨_,h,fun _ _ h'=>h'⟩|exact⟨_,h.2,fun _ _ h'=>⟨h.1,h'⟩⟩|exact⟨_,h.2.2,fun _ _ h'=>⟨h.1,h.2.1,h'⟩⟩|exact⟨_,h.2.2.2,fun _ _ h'=>⟨h.1,h.2.1,h.2.2.1,h'⟩⟩|exact⟨_,h.2.2.2.2,fun _ _ h'=>⟨h.1,h.2.1,h.2.2.1,h.2.2.2.1,h'⟩⟩|exact⟨_,h.2.2.2.2.2,fun _ _ h'=>⟨h.1,h.2.1,h.2.2.1,h.2.2.2.1,h.2.2.2.2.1,h'⟩⟩|exact⟨_,h.2.2.2.2.2.2,fun _ _ h'=>⟨h.1,h.2.1,h.2.2.1,h.2.2.2.1,h.2.2.2.2.1,h.2.2.2.2.2.1,h'⟩⟩)
theorem idxAC_quiet (agg:Bool)(n sz:Nat)(x i:AV){σ:List AObj}{K:KT}(h:zcl agg n sz x i σ K):∃v,K v σ/\∀(σ':List AObj) (K':KT),K' v σ'→zcl agg n sz x i σ' K':=by
 unfold zcl at *;repeat' split at h
 all_goals(first|exact h.elim|skip)
 all_goals(revert h;try simp only[*,if_true,if_false,Bool.false_eq_true,reduceIte,ite_true,ite_false])
 all_goals(intro h)
 all_goals(first|exact h.2.elim|exact h.2.2.elim|exact⟨_,h,fun _ _ h'=>h'⟩|exact⟨_,h.2,fun _ _ h'=>⟨h.1,h'⟩⟩|exact⟨_,h.2.2,fun _ _ h'=>⟨h.1,h.2.1,h'⟩⟩|exact⟨_,h.2.2.2,fun _ _ h'=>⟨h.1,h.2.1,h.2.2.1,h'⟩⟩|exact⟨_,h.2.2.2.2,fun _ _ h'=>⟨h.1,h.2.1,h.2.2.1,h.2.2.2.1,h'⟩⟩|exact⟨_,h.2.2.2.2.2,fun _ _ h'=>⟨h.1,h.2.1,h.2.2.1,h.2.2.2.1,h.2.2.2.2.1,h'⟩⟩|exact⟨_,h.2.2.2.2.2.2,fun _ _ h'=>⟨h.1,h.2.1,h.2.2.1,h.2.2.2.1,h.2.2.2.2.1,h.2.2.2.2.2.1,h'⟩⟩)
theorem zxQ (x:AV)(k:Nat){σ:List AObj}{K:KT}(h:zf x k σ K):∃v,K v σ/\∀(σ':List AObj) (K':KT),K' v σ'→zf x k σ' K':=by
 unfold zf at *;repeat' split at h
 all_goals(first|exact h.elim|skip)
 all_goals(revert h;try simp only[*,if_true,if_false,Bool.false_eq_true,reduceIte,ite_true,ite_false])
 all_goals(intro h)
 all_goals(first|exact h.2.elim|exact h.2.2.elim|exact⟨_,h,fun _ _ h'=>h'⟩|exact⟨_,h.2,fun _ _ h'=>⟨h.1,h'⟩⟩|exact⟨_,h.2.2,fun _ _ h'=>⟨h.1,h.2.1,h'⟩⟩|exact⟨_,h.2.2.2,fun _ _ h'=>⟨h.1,h.2.1,h.2.2.1,h'⟩⟩|exact⟨_,h.2.2.2.2,fun _ _ h'=>⟨h.1,h.2.1,h.2.2.1,h.2.2.2.1,h'⟩⟩|exact⟨_,h.2.2.2.2.2,fun _ _ h'=>⟨h.1,h.2.1,h.2.2.1,h.2.2.2.1,h.2.2.2.2.1,h'⟩⟩|exact⟨_,h.2.2.2.2.2.2,fun _ _ h'=>⟨h.1,h.2.1,h.2.2.1,h.2.2.2.1,h.2.2.2.2.1,h.2.2.2.2.2.1,h'⟩⟩)
theorem maxC_quiet (xs:List AV){σ:List AObj}{K:KT}(h:zgF xs σ K):∃v,K v σ/\∀(σ':List AObj) (K':KT),K' v σ'→zgF xs σ' K':=by
 unfold zgF at *;repeat' split at h
 all_goals(first|exact h.elim|skip)
 all_goals(revert h;try simp only[*,if_true,if_false,Bool.false_eq_true,reduceIte,ite_true,ite_false])
 all_goals(intro h)
 all_goals(first|exact h.2.elim|exact h.2.2.elim|exact⟨_,h,fun _ _ h'=>h'⟩|exact⟨_,h.2,fun _ _ h'=>⟨h.1,h'⟩⟩|exact⟨_,h.2.2,fun _ _ h'=>⟨h.1,h.2.1,h'⟩⟩|exact⟨_,h.2.2.2,fun _ _ h'=>⟨h.1,h.2.1,h.2.2.1,h'⟩⟩|exact⟨_,h.2.2.2.2,fun _ _ h'=>⟨h.1,h.2.1,h.2.2.1,h.2.2.2.1,h'⟩⟩|exact⟨_,h.2.2.2.2.2,fun _ _ h'=>⟨h.1,h.2.1,h.2.2.1,h.2.2.2.1,h.2.2.2.2.1,h'⟩⟩|exact⟨_,h.2.2.2.2.2.2,fun _ _ h'=>⟨h.1,h.2.1,h.2.2.1,h.2.2.2.1,h.2.2.2.2.1,h.2.2.2.2.2.1,h'⟩⟩)
theorem minC_quiet (xs:List AV){σ:List AObj}{K:KT}(h:zhG xs σ K):∃v,K v σ/\∀(σ':List AObj) (K':KT),K' v σ'→zhG xs σ' K':=by
 unfold zhG at *;repeat' split at h
 all_goals(first|exact h.elim|skip)
 all_goals(revert h;try simp only[*,if_true,if_false,Bool.false_eq_true,reduceIte,ite_true,ite_false])
 all_goals(intro h)
 all_goals(first|exact h.2.elim|exact h.2.2.elim|exact⟨_,h,fun _ _ h'=>h'⟩|exact⟨_,h.2,fun _ _ h'=>⟨h.1,h'⟩⟩|exact⟨_,h.2.2,fun _ _ h'=>⟨h.1,h.2.1,h'⟩⟩|exact⟨_,h.2.2.2,fun _ _ h'=>⟨h.1,h.2.1,h.2.2.1,h'⟩⟩|exact⟨_,h.2.2.2.2,fun _ _ h'=>⟨h.1,h.2.1,h.2.2.1,h.2.2.2.1,h'⟩⟩|exact⟨_,h.2.2.2.2.2,fun _ _ h'=>⟨h.1,h.2.1,h.2.2.1,h.2.2.2.1,h.2.2.2.2.1,h'⟩⟩|exact⟨_,h.2.2.2.2.2.2,fun _ _ h'=>⟨h.1,h.2.1,h.2.2.1,h.2.2.2.1,h.2.2.2.2.1,h.2.2.2.2.2.1,h'⟩⟩)
theorem loadC_quiet (agg:Bool)(n:Nat)(x:AV){σ:List AObj}{K:KT}(h:ze agg n x σ K):∃v,K v σ/\∀(σ':List AObj) (K':KT),keepO x σ σ'→K' v σ'→ze agg n x σ' K':=by
 unfold ze at h;split at h
 ·rename_i id off;split at h
  ·rename_i cs hcs;split at h
   ·rename_i hg;exact⟨_,h.2,fun σ' K' hk h'=>by
     have hk':σ'[id]? = σ[id]?:=hk;simp only[ze];rw[hk',hcs];simp only[hg,if_true];exact⟨h.1,h'⟩⟩
   ·rename_i hg;split at h
    ·rename_i hv;exact⟨_,h,fun σ' K' hk h'=>by
      have hk':σ'[id]? = σ[id]?:=hk;simp only[ze];rw[hk',hcs];simp only[if_neg hg];rw[hv];exact h'⟩
    ·exact h.elim
  ·exact h.elim
 ·split at h
  ·rename_i hg;exact⟨_,h.2,fun σ' K' hk h'=>by simp only[ze,if_pos hg];exact⟨h.1,h'⟩⟩
  ·rename_i hg;split at h
   ·rename_i hv;exact⟨_,h,fun σ' K' hk h'=>by simp only[ze,if_neg hg];rw[hv];exact h'⟩
   ·exact h.elim
 ·rename_i t g off;split at h
  ·rename_i cs hcs;obtain⟨hg',h⟩:=h;split at h
   ·rename_i hg;exact⟨_,h.2,fun σ' K' hk h'=>by
     have hk':σ'[t]? = σ[t]?:=hk;simp only[ze];rw[hk',hcs];simp only[hg,if_true];exact⟨hg',h.1,h'⟩⟩
   ·rename_i hg;split at h
    ·rename_i hv;exact⟨_,h,fun σ' K' hk h'=>by
      have hk':σ'[t]? = σ[t]?:=hk;simp only[ze];rw[hk',hcs];simp only[if_neg hg];rw[hv];exact⟨hg',h'⟩⟩
    ·exact h.elim
  ·exact h.elim
 ·exact h.elim
theorem mgetC_quiet (kk:KK)(ok:Bool)(z m k:AV){σ:List AObj}{K:KT}(h:zcf kk ok z m k σ K):∃v,K v σ/\∀(σ':List AObj) (K':KT),keepO m σ σ'→K' v σ'→zcf kk ok z m k σ' K':=by
 unfold zcf at h;split at h
 ·rename_i es hes;have key:∀σ',keepO m σ σ'→zfg m σ'=some es:=fun σ' hk=>by
   cases m with
   | d x=>cases x<;>simp only[zfg]at hes ⊢ <;> exact hes
   | map id=>simp only[zfg,keepO]at hes hk ⊢;rw[hk];exact hes
   | _=>simp only[zfg]at hes;cases hes
  obtain⟨h1,h⟩:=h;split at h
  ·rename_i hf;exact⟨_,h,fun σ' K' hk h'=>by simp only[zcf,key σ' hk,hf];exact⟨h1,h'⟩⟩
  ·rename_i hf;exact⟨_,h,fun σ' K' hk h'=>by simp only[zcf,key σ' hk,hf];exact⟨h1,h'⟩⟩
  ·exact h.elim
 ·exact h.elim
theorem lenC_quiet (k:LK)(x:AV)(hq:(match k with|.map=>false|_=>true)=true){σ:List AObj}{K:KT}(h:zah k x σ K):∃v,K v σ/\∀(σ':List AObj) (K':KT),K' v σ'→zah k x σ' K':=by
 cases k with
 | map=>cases hq
 | _=>
  simp only[zah]at h ⊢
  repeat' split at h
  all_goals(first|exact h.elim|skip)
  all_goals(revert h;try simp only[*])
  all_goals(intro h)
  all_goals(exact⟨_,h,fun _ _ h'=>h'⟩)
theorem zxM (s n:Nat)(o:Option (List AV)){σ:List AObj}{K:KT}(h:zp false s n o σ K):∃v,K v σ/\∀(σ':List AObj) (K':KT),K' v σ'→zp false s n o σ' K':=by
 simp only[zp,Bool.false_eq_true,if_false]at *;repeat' split at h
 all_goals(first|exact h.elim|skip)
 all_goals(revert h;try simp only[*])
 all_goals(intro h)
 all_goals(exact⟨_,h,fun _ _ h'=>h'⟩)
theorem pickC_quiet (c a b:AV){σ:List AObj}{K:KT}(h:zxL c a b σ K):∃v,K v σ/\∀(σ':List AObj) (K':KT),K' v σ'→zxL c a b σ' K':=by
 unfold zxL at *;split at h
 ·rename_i t;cases t
  ·exact⟨_,h.2 rfl,fun _ _ h'=>⟨fun e=>Bool.noConfusion e,fun _=>h'⟩⟩
  ·exact⟨_,h.1 rfl,fun _ _ h'=>⟨fun _=>h',fun e=>Bool.noConfusion e⟩⟩
 ·exact h.elim
theorem unA_quiet (op:UnOp)(x:AV){K:AV->Prop}(h:unA op x K):∃v,K v/\∀K':AV->Prop,K' v->unA op x K':=by
 unfold unA at *;split at h
 ·exact⟨_,h,fun _ h'=>h'⟩
 ·exact⟨_,h,fun _ h'=>h'⟩
 ·exact h.elim
theorem zxf {i:I}(hq:i.quiet=true){fr:zW}{σ:List AObj}{K:KT}(h:zaQ P i fr σ K) :
  ∃v,K v σ/\∀(σ':List AObj) (K':KT),(∀o,i.at? = some o->keepO (ev fr o) σ σ')->K' v σ'→zaQ P i fr σ' K':=by
 cases i<;>simp only[I.quiet,Bool.false_eq_true]at hq<;>simp only[zaQ]at h ⊢;case mv=>exact⟨_,h,fun _ _ _ h'=>h'⟩
 case pick=>obtain⟨v,hv,hk⟩:=pickC_quiet _ _ _ h;exact⟨v,hv,fun σ' K' _ h'=>hk σ' K' h'⟩
 case build=>obtain⟨v,hv,hk⟩:=buildC_quiet _ h;exact⟨v,hv,fun σ' K' _ h'=>hk σ' K' h'⟩
 case mkslice mu _ _ _ _=>
  cases mu
  ·obtain⟨v,hv,hk⟩:=zxM _ _ _ h;exact⟨v,hv,fun σ' K' _ h'=>hk σ' K' h'⟩
  ·simp[I.quiet]at hq
 case load=>obtain⟨v,hv,hk⟩:=loadC_quiet _ _ _ h;exact⟨v,hv,fun σ' K' ho h'=>hk σ' K' (ho _ rfl) h'⟩
 case nilchk=>obtain⟨v,hv,hk⟩:=nilC_quiet _ h;exact⟨v,hv,fun σ' K' _ h'=>hk σ' K' h'⟩
 case bin=>obtain⟨v,hv,hk⟩:=binA_quiet h;exact⟨v,hv,fun σ' K' _ h'=>hk (fun a=>K' a σ') h'⟩
 case un=>obtain⟨v,hv,hk⟩:=unA_quiet _ _ h;exact⟨v,hv,fun σ' K' _ h'=>hk (fun a=>K' a σ') h'⟩
 case conv=>obtain⟨v,hv,hk⟩:=convC_quiet _ _ h;exact⟨v,hv,fun σ' K' _ h'=>hk σ' K' h'⟩
 case slc=>obtain⟨v,hv,hk⟩:=slcC_quiet _ _ _ _ _ h;exact⟨v,hv,fun σ' K' _ h'=>hk σ' K' h'⟩
 case faddr=>obtain⟨v,hv,hk⟩:=faddrC_quiet _ _ h;exact⟨v,hv,fun σ' K' _ h'=>hk σ' K' h'⟩
 case field=>obtain⟨v,hv,hk⟩:=fieldC_quiet _ _ _ _ h;exact⟨v,hv,fun σ' K' _ h'=>hk σ' K' h'⟩
 case iaddr=>obtain⟨v,hv,hk⟩:=iaddrC_quiet _ _ _ _ h;exact⟨v,hv,fun σ' K' _ h'=>hk σ' K' h'⟩
 case idxS=>obtain⟨v,hv,hk⟩:=idxSC_quiet _ _ h;exact⟨v,hv,fun σ' K' _ h'=>hk σ' K' h'⟩
 case idxA=>obtain⟨v,hv,hk⟩:=idxAC_quiet _ _ _ _ _ h;exact⟨v,hv,fun σ' K' _ h'=>hk σ' K' h'⟩
 case extract=>obtain⟨v,hv,hk⟩:=zxQ _ _ h;exact⟨v,hv,fun σ' K' _ h'=>hk σ' K' h'⟩
 case len=>obtain⟨v,hv,hk⟩:=lenC_quiet _ _ hq h;exact⟨v,hv,fun σ' K' _ h'=>hk σ' K' h'⟩
 case maxi=>obtain⟨v,hv,hk⟩:=maxC_quiet _ h;exact⟨v,hv,fun σ' K' _ h'=>hk σ' K' h'⟩
 case mini=>obtain⟨v,hv,hk⟩:=minC_quiet _ h;exact⟨v,hv,fun σ' K' _ h'=>hk σ' K' h'⟩
 case mget=>obtain⟨v,hv,hk⟩:=mgetC_quiet _ _ _ _ _ h;exact⟨v,hv,fun σ' K' ho h'=>hk σ' K' (ho _ rfl) h'⟩
theorem zkC (fr:zW)(d:Option Nat)(a:AV)(i:Nat):zhn (aput fr d a) i=if d=some i then a else zhn fr i:=by
 cases d with
 | none=>simp[aput]
 | some d=>simp only[aput,zmw,Option.some.injEq];by_cases h:i=d<;>simp[h,eq_comm]
def FEq (fr fr':zW):Prop:=∀i,zhn fr i=zhn fr' i
def FE (K:zW->List AObj->Prop):Prop:=∀fr fr' σ,FEq fr fr'→K fr σ->K fr' σ
theorem zvz {x:Ai}{fr fr':zW}{σ:List AObj}{K K':zW->List AObj->Prop}(he:∀t∈x.reads,zhn fr t=zhn fr' t)
  (hk:∀u s,K (aput fr x.dst u) s->K' (aput fr' x.dst u) s) (h:aop P x fr σ K):aop P x fr' σ K':=by
 unfold aop at *;cases hg:x.g with
 | none=>
  simp only[hg]at h ⊢
  rw[← zsF (fr:=fr) (fr':=fr') fun t ht=>he t (by simp only[Ai.reads,hg];exact ht)]
  exact zzm (fun a s=>hk a s) h
 | some p=>
  obtain⟨s,want⟩:=p
  simp only[hg]at h ⊢
  have e1:∀t∈x.i.reads,zhn fr t=zhn fr' t:=fun t ht=>he t (by simp only[Ai.reads,hg];exact List.mem_cons_of_mem _ ht)
  have e0:zhn fr s=zhn fr' s:=he s (by simp only[Ai.reads,hg];exact List.mem_cons_self)
  rw[← e0]
  unfold ziQ at *
  split at h
  ·refine⟨fun e=>?_,fun e=>hk _ _ (h.2 e)⟩
   have h1:=h.1 e
   rw[← zsF (fr:=fr) (fr':=fr') e1]
   exact zzm (fun a s=>hk a s) h1
  ·exact hk _ _ h
  ·exact h
theorem zel {x:Ai}{fr:zW}{σ:List AObj}{K K':zW->List AObj->Prop}(hk:∀f s,K f s->K' f s)(h:aop P x fr σ K):aop P x fr σ K':=
 zvz (fun _ _=>rfl) (fun _ _=>hk _ _) h
theorem zsG {x:Ai}(hq:x.i.quiet=true){fr:zW}{σ:List AObj}{K:zW->List AObj->Prop}(h:aop P x fr σ K) :
  ∃v,K (aput fr x.dst v) σ/\∀(fr':zW) (σ':List AObj) (K':zW->List AObj->Prop),(∀t∈x.reads,zhn fr t=zhn fr' t)->(∀o,x.i.at? = some o->keepO (ev fr o) σ σ')->K' (aput fr' x.dst v) σ'→aop P x fr' σ' K':=by
 unfold aop at h;cases hg:x.g with
 | none=>
  simp only[hg]at h
  obtain⟨v,hv,hk⟩:=zxf hq h
  refine⟨v,hv,fun fr' σ' K' he hb h'=>?_⟩
  unfold aop
  simp only[hg]
  rw[← zsF (fr:=fr) (fr':=fr') fun t ht=>he t (by simp only[Ai.reads,hg];exact ht)]
  exact hk σ' _ hb h'
 | some p=>
  obtain⟨s,want⟩:=p
  simp only[hg]at h
  unfold ziQ at h
  have e0:∀fr':zW,(∀t∈x.reads,zhn fr t=zhn fr' t)->zhn fr s=zhn fr' s:=fun fr' he=>he s (by simp only[Ai.reads,hg];exact List.mem_cons_self)
  split at h
  ·rename_i b hb
   cases hbw:(b==want)
   ·refine⟨_,h.2 hbw,fun fr' σ' K' he _ h'=>?_⟩
    unfold aop
    simp only[hg]
    rw[← e0 fr' he,hb]
    exact⟨fun e=>(by rw[hbw]at e;cases e),fun _=>h'⟩
   ·obtain⟨v,hv,hk⟩:=zxf hq (h.1 hbw)
    refine⟨v,hv,fun fr' σ' K' he ho h'=>?_⟩
    unfold aop
    simp only[hg]
    rw[← e0 fr' he,hb]
    refine⟨fun _=>?_,fun e=>(by rw[hbw]at e;cases e)⟩
    rw[← zsF (fr:=fr) (fr':=fr') fun t ht=>he t (by simp only[Ai.reads,hg];exact List.mem_cons_of_mem _ ht)]
    exact hk σ' _ ho h'
  ·rename_i hb
   refine⟨_,h,fun fr' σ' K' he _ h'=>?_⟩
   unfold aop
   simp only[hg]
   rw[← e0 fr' he,hb]
   exact h'
  ·exact h.elim
def zwj (fr:zW) (σ σ':List AObj):List Nat->Prop->Prop
 | [],p=>p
 | o::r,p=>keepO (zhn fr o) σ σ'∧zwj fr σ σ' r p
theorem zkz {fr:zW}{σ σ':List AObj}{p:Prop}:∀ {l:List Nat},zwj fr σ σ' l p↔(∀o∈l,keepO (zhn fr o) σ σ')/\p
 | []=>by simp[zwj]
 | o::r=>by simp only[zwj,zkz (l:=r),List.mem_cons,forall_eq_or_imp,and_assoc]
def zdw (P:Program) (l:List Ai):List (Nat × List Nat)->zW->List AObj->(zW->List AObj->Prop)->Prop
 | [],fr,σ,K=>K fr σ
 | (i,nd)::r,fr,σ,K=>
  match l[i]? with
  | some x=>aop P x fr σ fun f s=>zwj fr σ s nd (zdw P l r f s K)
  | none=>False
theorem FEq.put {fr fr':zW}(h:FEq fr fr')(d:Option Nat)(a:AV):FEq (aput fr d a) (aput fr' d a):=fun i=>by
 rw[zkC,zkC,h i]
theorem FEq.ev {fr fr':zW}(h:FEq fr fr')(o:Opd):ev fr o=ev fr' o:=zbF fun t _=>h t
theorem zpS {l:List Ai}{K:zW->List AObj->Prop}(hK:FE K):∀(lin:List (Nat × List Nat)) (fr fr':zW) (σ:List AObj),FEq fr fr'→zdw P l lin fr σ K->zdw P l lin fr' σ K
 | [],fr,fr',σ,he,h=>hK fr fr' σ he h
 | (i,nd)::r,fr,fr',σ,he,h=>by
  unfold zdw at *;split at h
  ·refine zvz (fun t _=>he t) (fun u s hs=>?_) h;rw[zkz]at hs ⊢;exact⟨fun o ho=>(by rw[← he o];exact hs.1 o ho),zpS hK r _ _ s (he.put _ u) hs.2⟩
  ·exact h
def passes (x y:Ai):Bool:=
 x.i.quiet&&(x.dst.all fun d=>!y.reads.contains d)&&(y.dst.all fun d=>!x.reads.contains d)&&(match x.dst with|some d=>!(y.dst==some d)|none=>true)
theorem zvW {x y:Ai}(h:passes x y=true):x.i.quiet=true/\(∀d,x.dst=some d->d∉y.reads)/\(∀d,y.dst=some d->d∉x.reads)/\(∀d,x.dst=some d->y.dst≠some d):=by
 simp only[passes,Bool.and_eq_true]at h;obtain⟨⟨⟨h1,h2⟩,h3⟩,h4⟩:=h;refine⟨h1,fun d hd=>?_,fun d hd=>?_,fun d hd=>?_⟩
 ·rw[hd]at h2;simpa using h2
 ·rw[hd]at h3;simpa using h3
 ·rw[hd]at h4;simpa using h4
theorem swap {x y:Ai}{fr:zW}{σ:List AObj}{K:zW->List AObj->Prop}(hp:passes x y=true)(hK:FE K)
  (h:aop P x fr σ fun f s=>aop P y f s fun f' s'=>(∀o,x.i.at? = some o->keepO (ev fr o) σ s')/\K f' s') :
  aop P y fr σ fun f s=>aop P x f s K:=by
 obtain⟨hq,h1,h2,h3⟩:=zvW hp;obtain⟨v,hv,hk⟩:=zsG hq h;refine zvz (fun t ht=>?_) (fun u s hs=>?_) hv
 ·rw[zkC];split
  ·rename_i e;exact absurd ht (h1 t e)
  ·rfl
 ·refine hk _ _ _ (fun t ht=>?_) hs.1 (hK _ _ s (fun i=>?_) hs.2)
  ·rw[zkC];split
   ·rename_i e;exact absurd ht (h2 t e)
   ·rfl
  ·simp only[zkC];by_cases hx:x.dst=some i
   ·have:=h3 i hx;simp[hx,this]
   ·simp[hx]
theorem aop_still {x:Ai}(hq:x.i.quiet=true){fr:zW}{σ:List AObj}{K:zW->List AObj->Prop}(h:aop P x fr σ K):aop P x fr σ fun f s=>s=σ/\K f s:=by
 obtain⟨v,hv,hk⟩:=zsG hq h;refine hk fr σ _ (fun _ _=>rfl) (fun o _=>?_) ⟨rfl,hv⟩;unfold keepO;split<;>trivial
def pairOk (x y:Ai) (nx ny:List Nat):Bool:=
 nx.isEmpty&&passes x y&&(match x.i.at? with|some (.tmp t)=>y.i.quiet || ny.contains t|some (.lit (.box _ _))=>false|some (.lit (.map _))=>false|some (.lit (.rpt _ _ _))=>false|_=>true)
def zrO (x y:Ai):Bool:=
 match x.i.at? with
 | some (.tmp t)=>!(y.dst==some t)&&!(x.dst==some t)
 | _=>true
theorem extract {l:List Ai}{K:zW->List AObj->Prop}(hK:FE K){i:Nat}{nd:List Nat}{x:Ai}(hx:l[i]? = some x){post:List (Nat × List Nat)} :
  ∀(pre:List (Nat × List Nat)) (fr:zW) (σ:List AObj),(∀p∈pre,∃y,l[p.1]? = some y/\pairOk y x p.2 nd=true) →
   (pre.Pairwise fun p q=>∀y z,l[p.1]? = some y->l[q.1]? = some z->zrO y z=true)->(∀p∈pre,∀y,l[p.1]? = some y->zrO y y=true) →
   zdw P l (pre++(i,nd)::post) fr σ K →
   aop P x fr σ fun f s=>((x.i.quiet=true->s=σ)/\∀t∈nd,(∀p∈pre,∀y,l[p.1]? = some y->y.dst≠some t)->keepO (zhn fr t) σ s)/\zdw P l (pre++post) f s K
 | [],fr,σ,_,_,_,h=>by
  simp only[List.nil_append,zdw,hx]at h;have h2:aop P x fr σ fun f s=>(∀t∈nd,keepO (zhn fr t) σ s)/\zdw P l post f s K:=zel (fun f s hs=>zkz.1 hs) h;by_cases hq:x.i.quiet=true
  ·exact zel (fun f s hs=>⟨⟨fun _=>hs.1,fun t ht _=>hs.2.1 t ht⟩,hs.2.2⟩) (aop_still hq h2)
  ·exact zel (fun f s hs=>⟨⟨fun e=>absurd e hq,fun t ht _=>hs.1 t ht⟩,hs.2⟩) h2
 | (j,nj)::pre,fr,σ,hp,hs,hss,h=>by
  obtain⟨y,hy,hpy⟩:=hp (j,nj) List.mem_cons_self;simp only[pairOk,Bool.and_eq_true,List.isEmpty_iff]at hpy;obtain⟨⟨hnj,hps⟩,hat⟩:=hpy;subst hnj;have hyq:=(zvW hps).1;have hyy:=hss (j,[]) List.mem_cons_self y hy;rw[List.pairwise_cons]at hs;simp only[List.cons_append,zdw,hy,zwj]at h;obtain⟨v,hv,hk⟩:=zsG hyq h;have ih:=extract hK hx pre _ σ (fun p hp'=>hp p (List.mem_cons_of_mem _ hp')) hs.2 (fun p hp'=>hss p (List.mem_cons_of_mem _ hp')) hv;have h3:aop P y fr σ fun f s=>aop P x f s fun f' s'=>(∀o,y.i.at? = some o->keepO (ev fr o) σ s') ∧
    (((x.i.quiet=true->s'=σ)/\∀t∈nd,(∀p∈(j,[])::pre,∀y,l[p.1]? = some y->y.dst≠some t)->keepO (zhn fr t) σ s')/\zdw P l (pre++post) f' s' K):=by
   refine hk fr σ _ (fun _ _=>rfl) (fun o _=>(by unfold keepO;split<;>trivial)) (zel (fun f' s' hh=>?_) ih);refine⟨fun o ho=>?_,⟨hh.1.1,fun t ht hno=>?_⟩,hh.2⟩
   ·cases o with
    | lit a=>
     rw[ho]at hat
     cases a<;>first|trivial|simp at hat
    | tmp t=>
     rw[ho]at hat
     simp only[Bool.or_eq_true,List.contains_iff_mem]at hat
     rcases hat with hq|hm
     ·rw[hh.1.1 hq];simp only[keepO];split<;>trivial
     ·have h4:=hh.1.2 t hm fun p hp' z hz=>by
       have:=hs.1 p hp' y z hy hz;simp only[zrO,ho,Bool.and_eq_true]at this;have:=this.1;simpa using this
      have h5:y.dst≠some t:=by
       simp only[zrO,ho,Bool.and_eq_true]at hyy;simpa using hyy.1
      rw[zkC,if_neg h5]at h4
      exact h4
   ·have h4:=hh.1.2 t ht fun p hp' z hz=>hno p (List.mem_cons_of_mem _ hp') z hz;rw[zkC,if_neg (hno (j,[]) List.mem_cons_self y hy)]at h4;exact h4
  have hKK:FE fun f' s'=>((x.i.quiet=true->s'=σ)/\∀t∈nd,(∀p∈(j,[])::pre,∀y,l[p.1]? = some y->y.dst≠some t)->keepO (zhn fr t) σ s')/\zdw P l (pre++post) f' s' K:=
   fun f f' s he hh=>⟨hh.1,zpS hK _ _ _ _ he hh.2⟩
  refine zel (fun f s hh=>?_) (swap hps hKK h3);obtain⟨v',hv',_⟩:=zsG hyq hh;refine⟨hv'.1,?_⟩;simp only[List.cons_append,zdw,hy,zwj];exact zel (fun f' s' h'=>h'.2) hh
end Go.AW
