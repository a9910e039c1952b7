/- What a law's arguments read as: data whose cells are known, and how much they hold. -/
import Derived.Test.YtfgbofkdhfjegaaGreatAwWp
import Derived.ReadAgain
import Derived.Below
import Derived.JoinedCond
import Derived.ProofKit
import Derived.OpenShut
set_option linter.all false
namespace Go.AW
inductive Ty where
 | int (k:IntKind)
 | bool
 | str
 | slice (e:List Ty)
def flatFs (P:Program) (g:TypeId->Option (List Ty)):List Field->Nat->Option (List Ty)
 | [],_=>some []
 | f::r,off=>match g f.type with
  | some a=>if f.offset=off/\P.cellsOf f.type=a.length then (flatFs P g r (off+a.length)).map (a ++ ·) else none
  | none=>none
def flat (P:Program):Nat->TypeId->Option (List Ty)
 | 0,_=>none
 | n+1,t=>match P.underlying t with
  | some (.int k)=>some [.int k]
  | some .bool=>some [.bool]
  | some .string=>some [.str]
  | some (.slice e)=>match flat P n e with
   | some ts=>if P.cellsOf e=ts.length/\0<ts.length then some [.slice ts] else none
   | none=>none
  | some (.struct fs)=>match flatFs P (flat P n) fs.toList 0 with
   | some ts=>if P.cellsOf t=ts.length then some ts else none
   | none=>none
  | _=>none
inductive zjW:Ty->D->Prop
 | int (k n):(Lit.int k n).wf=true->zjW (.int k) (.int k n)
 | bool (b):zjW .bool (.bool b)
 | str (s:List UInt8):s.length<=maxLen->zjW .str (.str s)
 | slice (ts:List Ty) (es:List (List D)):es.length<=maxLen->(∀ e∈es,e.length=ts.length)->(∀ e∈es, ∀ (i:Nat) t d,ts[i]? = some t->e[i]? = some d->zjW t d)->zjW (.slice ts) (.slice es)
def zcF (ts:List Ty) (ds:List D):Prop:=ds.length=ts.length/\∀ (i:Nat) t d,ts[i]? = some t->ds[i]? = some d->zjW t d
mutual
def zfJ:D->Nat
 | .str s=>s.length+1
 | .slice es=>zdE es+1
 | .int _ _ => 1
 | .bool _ => 1
 | .nilp => 1
 | .nilmap => 1
 | .nilfn => 1
def zcW:List D->Nat
 | [] => 0
 | d::r=>zfJ d+zcW r
def zdE:List (List D)->Nat
 | [] => 0
 | e::r=>zcW e+zdE r
end
theorem zsX (a b:List D):zcW (a++b)=zcW a+zcW b:=by
 induction a with
 | nil=>simp [zcW]
 | cons x a ih=>simp [zcW,ih];omega
structure IsBulk {H:Type} (bw:DataW H->Nat):Prop where
 str:∀ b,bw (.lit (.string b))=b.length+1
 slice:∀ e s,(e.map bw).sum+1<=bw (.slice e s)
 agg:∀ p,(p.map bw).sum<=bw (.agg p)
 one:∀ d, 1<=bw d
section
variable {H:Type} {enc:TypeId × Value->H} {P:Program} {w:World} {base:Nat} {spare:Nat->Bool} {held:Bool} {bw:DataW H->Nat}
def zoi (w:World) (ds:List D) (cs:List Value):Prop:=ds.length=cs.length/\∀ (i:Nat) d v,ds[i]? = some d->cs[i]? = some v->RD w (fun _ _=>False) d v
theorem zoi.append {a b:List D} {c d:List Value} (h1:zoi w a c) (h2:zoi w b d):zoi w (a++b) (c++d):=by
 refine ⟨by simp [h1.1,h2.1],fun i x v hx hv => ?_⟩
 rcases Nat.lt_or_ge i a.length with hl|hl
 ·rw [List.getElem?_append_left hl] at hx
  rw [List.getElem?_append_left (by have:=h1.1;omega)] at hv
  exact h1.2 i x v hx hv
 ·rw [List.getElem?_append_right hl] at hx
  rw [List.getElem?_append_right (by have:=h1.1;omega), ← h1.1] at hv
  exact h2.2 _ x v hx hv
theorem zcF.append {a b:List Ty} {c d:List D} (h1:zcF a c) (h2:zcF b d):zcF (a++b) (c++d):=by
 refine ⟨by simp [h1.1,h2.1],fun i x v hx hv => ?_⟩
 rcases Nat.lt_or_ge i a.length with hl|hl
 ·rw [List.getElem?_append_left hl] at hx
  rw [List.getElem?_append_left (by have:=h1.1;omega)] at hv
  exact h1.2 i x v hx hv
 ·rw [List.getElem?_append_right hl] at hx
  rw [List.getElem?_append_right (by have:=h1.1;omega),h1.1] at hv
  exact h2.2 _ x v hx hv
theorem str_len {s:ByteArray} (h:s.size<=maxLen):s.data.toList.length<=maxLen:=by
 have e2:s.data.toList.length=s.size:=by rw [Array.length_toList];rfl
 rw [e2];exact h
theorem cells_get {a:Addr} {n:Nat} {l:List Value} (h:w.cells? base a n=some l) (hn:0<n):a.spot=none/\l.length=n/\∀ (j:Nat) v,l[j]? = some v->w.cell? ⟨a.block,a.off+j,none⟩=some v:=by
 unfold World.cells? at h
 split at h
 ·obtain ⟨h1,h2⟩:=mapM_some h
  simp only [List.length_range] at h1
  have h0:=h2 0 0 (l[0]'(by omega)) (List.getElem?_range (by omega)) (List.getElem?_eq_getElem _)
  have hs:a.spot=none:=by
   simp only [Addr.add,if_pos] at h0
   unfold World.cell? at h0
   split at h0
   ·split at h0
    ·cases h0
    ·rename_i hx;simpa using hx
   ·cases h0
  refine ⟨hs,h1,fun j v hj => ?_⟩
  have hjn:=zq hj
  have:=h2 j j v (List.getElem?_range (by omega)) hj
  have e:a.add j=⟨a.block,a.off+j,none⟩:=by
   obtain ⟨b,o,s⟩:=a
   simp only at hs
   subst hs
   exact zcq b o j
  rwa [e] at this
 ·cases h
theorem zud (hB:IsBulk bw):∀ (n:Nat) (t:TypeId) (ts:List Ty) (fuel:Nat) (cs:List Value) (dw:DataW H) (ps:List MemPlace),flat P n t=some ts->DataW.trod enc P w base spare held fuel t cs=some (dw,ps) →
  ∃ ds,zcF ts ds/\zoi w ds cs/\zcW ds<=bw dw
 | 0,_,_,_,_,_,_,h,_=>by simp [flat] at h
 | n+1,t,ts, 0,cs,dw,ps,_,h=>by simp [DataW.trod] at h
 | n+1,t,ts,fuel+1,cs,dw,ps,hf,h=>by
  rw [DataW.trod_step] at h
  simp only [flat] at hf
  have one:∀ {ty:Ty} {d:D} {v:Value},ts = [ty]->cs = [v]->zjW ty d->RD w (fun _ _=>False) d v->zfJ d<=bw dw->∃ ds,zcF ts ds/\zoi w ds cs/\zcW ds<=bw dw:=fun {ty d v} h1 h2 h3 h4 h5=>by
   subst h1 h2
   refine ⟨[d],⟨rfl,fun i t x ht hx => ?_⟩,⟨rfl,fun i x u hx hu => ?_⟩,by simpa [zcW] using h5⟩
   ·cases i with
    | zero=>simp at ht hx;subst ht hx;exact h3
    | succ i=>simp at ht
   ·cases i with
    | zero=>simp at hx hu;subst hx hu;exact h4
    | succ i=>simp at hx
  split at hf
  ·-- int
   rename_i k hu
   cases hf
   rcases cs with _|⟨v,_|⟨v2,cs⟩⟩
   ·simp [DataW.trodStep,hu] at h
   ·cases v<;>simp only [DataW.trodStep,hu] at h<;>try (cases h;done)
    rename_i k2 m
    split at h
    ·rename_i hk
     cases h
     obtain ⟨rfl,hwf⟩:=hk
     exact one rfl rfl (.int _ _ hwf) (.int _ _) (by have:=hB.one (.lit (.int k2 m));simpa [zfJ] using this)
    ·cases h
   ·simp [DataW.trodStep,hu] at h
  ·-- bool
   rename_i hu
   cases hf
   rcases cs with _|⟨v,_|⟨v2,cs⟩⟩
   ·simp [DataW.trodStep,hu] at h
   ·cases v<;>simp only [DataW.trodStep,hu] at h<;>try (cases h;done)
    rename_i b
    cases h
    exact one rfl rfl (.bool _) (.bool _) (by have:=hB.one (.lit (.bool b));simpa [zfJ] using this)
   ·simp [DataW.trodStep,hu] at h
  ·-- string
   rename_i hu
   cases hf
   rcases cs with _|⟨v,_|⟨v2,cs⟩⟩
   ·simp [DataW.trodStep,hu] at h
   ·cases v<;>simp only [DataW.trodStep,hu] at h<;>try (cases h;done)
    rename_i s
    split at h
    ·rename_i hs
     cases h
     have e:s=⟨s.data.toList.toArray⟩:=by cases s;rfl
     exact one (d := .str s.data.toList) rfl rfl (.str _ (str_len hs)) (by rw [show Value.string s = .string ⟨s.data.toList.toArray⟩ from by rw [← e]];exact .str _) (by rw [hB.str];simp [zfJ])
    ·cases h
   ·simp [DataW.trodStep,hu] at h
  ·-- slice
   rename_i e hu
   split at hf
   ·rename_i te hte
    simp only [Option.ite_none_right_eq_some,Option.some.injEq] at hf
    obtain ⟨⟨hce,hpos⟩,rfl⟩:=hf
    rcases cs with _|⟨v,_|⟨v2,cs⟩⟩
    ·simp [DataW.trodStep,hu] at h
    ·cases v<;>try (simp only [DataW.trodStep,hu] at h;cases h;done)
     rename_i a len cap
     cases a with
     | none=>
      have:len=0/\cap=0/\dw = .nil:=by
       cases len<;>cases cap<;>simp [DataW.trodStep,hu] at h
       exact ⟨rfl,rfl,h.1.symm⟩
      obtain ⟨rfl,rfl,rfl⟩:=this
      exact one (d := .slice []) rfl rfl (.slice _ [] (by simp) (by simp) (by simp)) (.empty none 0 (fun _=>rfl)) (by have:=hB.one (.nil:DataW H);simpa [zfJ,zdE] using this)
     | some a=>
      simp only [DataW.trodStep,hu] at h
      split at h
      ·rename_i hb
       simp only [Option.bind_eq_some_iff] at h
       obtain ⟨elems,he,h⟩:=h
       simp only [Option.map_eq_some_iff] at h
       obtain ⟨rest,hr,h⟩:=h
       cases h
       obtain ⟨m1,m2⟩:=AW.mapM_some he
       rw [List.length_range] at m1
       by_cases hlen:len=0
       ·subst hlen
        have:elems = []:=by simpa using m1
        subst this
        exact one (d := .slice []) rfl rfl (.slice _ [] (by simp) (by simp) (by simp)) (.empty (some a) cap (fun e=>by cases e)) (by have:=hB.slice [] (rest.map (·.1));simpa [zfJ,zdE] using this)
       -- each element
       have each:∀ i, ∃ e':List D,i<len->zcF te e' ∧ (a.add (i*P.cellsOf e)).spot=none/\(∀ (j:Nat) d,e'[j]? = some d->∃ v,w.cell? ⟨a.block,(a.add (i*P.cellsOf e)).off+j,none⟩=some v/\RD w (fun _ _=>False) d v)/\∃ x,elems[i]? = some x/\zcW e' ≤ bw x.1:=fun i=>by
        by_cases hi:i<len
        ·have hx:elems[i]? = some (elems[i]'(by omega)):=List.getElem?_eq_getElem _
         have:=m2 i i _ (List.getElem?_range (by omega)) hx
         simp only [Option.bind_eq_some_iff] at this
         obtain ⟨cl,hc,ht⟩:=this
         obtain ⟨ds,g1,g2,g3⟩:=zud hB n e te fuel cl _ _ hte ht
         obtain ⟨c1,c2,c3⟩:=cells_get hc (by omega)
         have hblk:(a.add (i*P.cellsOf e)).block=a.block:=by unfold Addr.add;split<;>rfl
         refine ⟨ds,fun _=>⟨g1,c1,fun j d hj => ?_,_,hx,g3⟩⟩
         have hjl:=zq hj
         have hv:cl[j]? = some (cl[j]'(by have:=g2.1;omega)):=List.getElem?_eq_getElem _
         exact ⟨_,by rw [← hblk];exact c3 j _ hv,g2.2 j d _ hj hv⟩
        ·exact ⟨[],fun h=>absurd h hi⟩
       obtain ⟨f,hf⟩:=Classical.axiomOfChoice each
       obtain ⟨_,hs0,_,_⟩:=hf 0 (by omega)
       have ha:a=⟨a.block,a.off,none⟩:=by
        obtain ⟨b,o,s⟩:=a
        simp [Addr.add] at hs0
        rw [hs0]
       have hoff:∀ i,(a.add (i*P.cellsOf e)).off=a.off+i*te.length:=fun i=>by
        rw [ha,zcq,hce]
       let es:=(List.range len).map f
       have hes:∀ (i:Nat) e',es[i]? = some e' → i<len/\e' = f i:=fun i e' h=>by
        simp only [es,List.getElem?_map,Option.map_eq_some_iff] at h
        obtain ⟨k,hk,rfl⟩:=h
        have hl:=zq hk
        simp at hl
        simp [hl] at hk
        subst hk
        exact ⟨hl,rfl⟩
       have hmem:∀ e' ∈ es, ∃ i,i<len/\e' = f i:=fun e' h=>by
        obtain ⟨i,hi⟩:=List.mem_iff_getElem?.1 h
        exact ⟨i,hes i e' hi⟩
       have hel:es.length=len:=by simp [es]
       have vals:∀ i j, ∃ v, ∀ d,i<len->(f i)[j]? = some d->w.cell? ⟨a.block,a.off+(i*te.length+j),none⟩=some v/\RD w (fun _ _=>False) d v:=fun i j=>by
        by_cases hi:i<len
        ·cases hd:(f i)[j]? with
         | none=>exact ⟨undef,fun d _ h=>by cases h⟩
         | some d=>
          obtain ⟨v,h1,h2⟩:=(hf i hi).2.2.1 j d hd
          rw [hoff,Nat.add_assoc] at h1
          exact ⟨v,fun d' _ h=>by cases h;exact ⟨h1,h2⟩⟩
        ·exact ⟨undef,fun d h=>absurd h hi⟩
       have vals2:∃ vs:Nat->Value, ∀ i j d,i<len->(f i)[j]? = some d->w.cell? ⟨a.block,a.off+(i*te.length+j),none⟩=some (vs (i*te.length+j))/\RD w (fun _ _=>False) d (vs (i*te.length+j)):=by
        refine ⟨fun k=>(w.cell? ⟨a.block,a.off+k,none⟩).getD undef,fun i j d hi hd => ?_⟩
        obtain ⟨v,hv⟩:=vals i j
        obtain ⟨h1,h2⟩:=hv d hi hd
        dsimp only;rw [h1];exact ⟨rfl,h2⟩
       obtain ⟨vs,hvs⟩:=vals2
       have hbulk:∀ (l:List Nat) (xs:List (DataW H × List MemPlace)),l.length=xs.length->(∀ (i:Nat) k x,l[i]? = some k->xs[i]? = some x->zcW (f k)<=bw x.1)->zdE (l.map f)<=((xs.map (·.1)).map bw).sum:=by
        intro l
        induction l with
        | nil=>intro xs _ _;simp [zdE]
        | cons k l ih=>
         intro xs hl h
         cases xs with
         | nil=>simp at hl
         | cons x xs=>
          have h0:=h 0 k x rfl rfl
          have:=ih xs (by simpa using hl) (fun i k' x' hk hx=>h (i+1) k' x' hk hx)
          simp only [List.map_cons,zdE,List.sum_cons]
          omega
       refine one (d := .slice es) rfl rfl (.slice _ _ (by rw [hel];omega) (fun e' h=>by
         obtain ⟨i,hi,rfl⟩:=hmem e' h
         exact (hf i hi).1.1) (fun e' h=>by
         obtain ⟨i,hi,rfl⟩:=hmem e' h
         exact (hf i hi).1.2)) ?_ ?_
       ·rw [ha]
        have:=RD.slice (w:=w) (O:=fun _ _=>False) es a.block a.off cap te.length vs (by intro e;rw [e] at hel;simp at hel;omega) (by rw [hel];exact hb.2.1) (fun e' h=>by
         obtain ⟨i,hi,rfl⟩:=hmem e' h
         exact (hf i hi).1.1) (fun i e' j d hi hj=>by
         obtain ⟨h1,rfl⟩:=hes i e' hi
         exact ⟨(hvs i j d h1 hj).1,fun h=>h⟩) (fun i e' j d hi hj=>by
         obtain ⟨h1,rfl⟩:=hes i e' hi
         exact (hvs i j d h1 hj).2)
        rwa [hel] at this
       ·have h1:=hB.slice (elems.map (·.1)) (rest.map (·.1))
        have h2:=hbulk (List.range len) elems (by simp [m1]) (fun i k x hk hx=>by
         have hl:=zq hk
         simp at hl
         simp [hl] at hk
         subst hk
         obtain ⟨y,hy,hle⟩:=(hf i hl).2.2.2
         rw [hx] at hy;cases hy;exact hle)
        simp only [zfJ,es]
        omega
      ·cases h
    ·simp [DataW.trodStep,hu] at h
   ·cases hf
  ·-- struct
   rename_i fs hu
   split at hf
   rotate_left
   ·cases hf
   rename_i ts' hf'
   simp only [Option.ite_none_right_eq_some,Option.some.injEq] at hf
   obtain ⟨hcel,rfl⟩:=hf
   have hX:∃ xs,fs.toList.mapM (fun f=>DataW.trod enc P w base spare held fuel f.type ((cs.drop f.offset).take (P.cellsOf f.type)))=some xs/\dw = .agg (xs.map (·.1))/\cs.length=P.cellsOf t:=by
    have:DataW.trodStep enc P w base spare held (DataW.trod enc P w base spare held fuel) t cs=if cs.length=P.cellsOf t then (fs.toList.mapM fun f=>DataW.trod enc P w base spare held fuel f.type ((cs.drop f.offset).take (P.cellsOf f.type))).map fun xs=>(.agg (xs.map (·.1)),xs.flatMap (·.2)) else none:=by
     unfold DataW.trodStep
     rw [hu]
    rw [this] at h
    split at h
    ·rename_i hl
     simp only [Option.map_eq_some_iff] at h
     obtain ⟨xs,hxs,h⟩:=h
     cases h
     exact ⟨xs,hxs,rfl,hl⟩
    ·cases h
   obtain ⟨xs,hxs,rfl,hl⟩:=hX
   have key:∀ (l:List Field) (off:Nat) (ts:List Ty) (xs:List (DataW H × List MemPlace)),flatFs P (flat P n) l off=some ts->l.mapM (fun f=>DataW.trod enc P w base spare held fuel f.type ((cs.drop f.offset).take (P.cellsOf f.type)))=some xs →
     ∃ ds,zcF ts ds/\zoi w ds ((cs.drop off).take ts.length)/\zcW ds<=((xs.map (·.1)).map bw).sum:=by
    intro l
    induction l with
    | nil=>
     intro off ts xs h1 h2
     simp [flatFs] at h1;subst h1
     simp at h2;subst h2
     exact ⟨[],⟨rfl,by simp⟩,⟨by simp,by simp⟩,by simp [zcW]⟩
    | cons f l ih=>
     intro off ts xs h1 h2
     simp only [flatFs] at h1
     split at h1
     ·rename_i ta hta
      simp only [Option.ite_none_right_eq_some,Option.map_eq_some_iff] at h1
      obtain ⟨⟨ho,hcl⟩,tr,htr,rfl⟩:=h1
      simp only [List.mapM_cons,Option.bind_eq_bind,Option.bind_eq_some_iff,Option.pure_def,Option.some.injEq] at h2
      obtain ⟨x,hx,xs',hxs',rfl⟩:=h2
      obtain ⟨d1,a1,a2,a3⟩:=zud hB n f.type ta fuel _ x.1 x.2 hta hx
      obtain ⟨d2,b1,b2,b3⟩:=ih (off+ta.length) tr xs' htr hxs'
      refine ⟨d1++d2,a1.append b1,?_,by rw [zsX];simp only [List.map_cons,List.sum_cons];omega⟩
      have e:(cs.drop off).take (ta++tr).length=((cs.drop f.offset).take (P.cellsOf f.type))++((cs.drop (off+ta.length)).take tr.length):=by
       rw [ho,hcl,List.length_append, ← List.drop_drop,List.take_add]
      rw [e]
      exact a2.append b2
     ·cases h1
   obtain ⟨ds,k1,k2,k3⟩:=key fs.toList 0 _ xs hf' hxs
   refine ⟨ds,k1,?_,by have:=hB.agg (xs.map (·.1));omega⟩
   have hlen:=k2.1
   have:(cs.drop 0).take ts'.length=cs:=by
    rw [List.drop_zero,List.take_of_length_le (by omega)]
   rwa [this] at k2
  ·cases hf
end
open Go.ChangeShapes Go.WideShapes Go.ChangeAt Go.RowKit
def loc0:Loc:={ a:=⟨0, 0,none⟩ }
def argA (g:Bool) (ds:List D):AV:=
 match g with
 | true => .agg (ds.map .d)
 | false => .d (ds.headD .nilp)
def ArgsOk:List (Bool × List Ty)->List AV->Nat->Prop
 | [],as0,_=>as0 = []
 | (g,ty)::r,as0,n => ∃ ds as' m,zcF ty ds/\zcW ds+m<=n/\as0=argA g ds::as' ∧ ArgsOk r as' m
def parOf (P:Program) (t:TypeId):Option (Bool × List Ty):=
 match zvG P t,flat P 24 t with
 | some g,some ts=>if g || ts.length==1 then some (g,ts) else none
 | _,_=>none
section
variable {H:Type} {enc:TypeId × Value->H} {P:Program} {W:World} {sp:Nat->Bool} {held:Bool} {bw:DataW H->Nat}
theorem cells_one_of {t:TypeId} {v:Value} {w:World} {r:Reach} {b:Nat} (hok:Value.okWide P w r b t v) (hg:zvG P t=some false) (ts:List Ty) (hts:flat P 24 t=some ts):v.cells.toList = [v]:=by
 unfold zvG at hg
 unfold Value.okWide at hok
 cases hu:P.underlying t with
 | none=>simp [hu] at hg
 | some d=>
  rw [hu] at hg hok
  cases d<;>simp at hg<;>simp only at hok<;>cases v<;>first|rfl|(simp [Cell.okWide,Cell.ok,hu] at hok;done)
theorem args_ok (hB:IsBulk bw):∀ (ts:List TypeId) (pars:List (Bool × List Ty)) (vs:List Value) (dws:List (DataW H)) (ps:List MemPlace),ts.mapM (parOf P)=some pars →
  DataW.TrodAll enc P W 0 sp held ts vs dws ps->(∀ (j:Nat) t v,ts[j]? = some t->vs[j]? = some v->∃ b,Value.okWide P W .any b t v) →
  ∃ as0,ArgsOk pars as0 (dws.map bw).sum/\RVs W (fun _=>loc0) [] as0 vs
 | [],pars,vs,dws,ps,h1,h2,h3=>by
  simp at h1;subst h1
  cases vs<;>cases dws<;>simp [DataW.TrodAll] at h2
  exact ⟨[],rfl,rfl,by simp⟩
 | t::ts,pars,vs,dws,ps,h1,h2,h3=>by
  simp only [List.mapM_cons,Option.bind_eq_bind,Option.bind_eq_some_iff,Option.pure_def,Option.some.injEq] at h1
  obtain ⟨⟨g,ty⟩,hp,pars',hps,rfl⟩:=h1
  obtain ⟨v,vs',d,ds',p,q,rfl,rfl,rfl,h4,h5⟩:=trodAll_cons h2
  obtain ⟨as0,ih1,ih2⟩:=args_ok hB ts pars' vs' ds' q hps h5 (fun j t v hj hv=>h3 (j+1) t v hj hv)
  unfold parOf at hp
  split at hp
  ·rename_i g' ts' hag hfl
   simp only [Option.ite_none_right_eq_some,Option.some.injEq,Prod.mk.injEq] at hp
   obtain ⟨hc,rfl,rfl⟩:=hp
   obtain ⟨fuel,h4⟩:=h4
   obtain ⟨ds,k1,k2,k3⟩:=zud hB 24 t _ fuel v.cells.toList d p hfl h4
   have hown:Own (fun _=>loc0) ([]:List zh)=fun _ _=>False:=by
    funext b o
    simp [Own]
   refine ⟨argA g' ds::as0,⟨ds,as0,_,k1,by simp only [List.map_cons,List.sum_cons];exact Nat.add_le_add_right k3 _,rfl,ih1⟩,by have:=ih2.1;simp [this],fun i a u ha hu => ?_⟩
   cases i with
   | succ i=>exact ih2.2 i a u ha hu
   | zero=>
    simp at ha hu
    subst ha hu
    obtain ⟨b,hok⟩:=h3 0 t v rfl rfl
    cases g' with
    | false=>
     have hcv:=cells_one_of hok hag _ hfl
     rw [hcv] at k2
     obtain ⟨x,rfl⟩:∃ x,ds = [x]:=by
      have:=k2.1
      match ds with
      | [x]=>exact ⟨x,rfl⟩
      | []=>simp at this
      | _::_::_=>simp at this
     refine .d _ _ ?_
     rw [hown]
     exact k2.2 0 x v rfl rfl
    | true=>
     have hv:∃ cs,v = .agg cs:=by
      unfold zvG at hag
      unfold Value.okWide at hok
      split at hag
      ·rename_i hu;rw [hu] at hok;obtain ⟨cs,h,_⟩:=hok;exact ⟨cs,h⟩
      ·rename_i hu;rw [hu] at hok;obtain ⟨cs,h,_⟩:=hok;exact ⟨cs,h⟩
      ·cases hag
      ·cases hag
     obtain ⟨cs,rfl⟩:=hv
     have e:cs=cs.toList.toArray:=by simp
     have k2':zoi W ds cs.toList:=k2
     show RV W _ [] (.agg (ds.map .d)) (.agg cs)
     rw [e]
     refine .agg _ _ (by have:=k2'.1;simp at this ⊢;omega) fun i c u hc hu => ?_
     simp only [List.getElem?_map,Option.map_eq_some_iff] at hc
     obtain ⟨x,hx,rfl⟩:=hc
     refine .d _ _ ?_
     rw [hown]
     exact k2'.2 i x u hx hu
  ·cases hp
theorem law_end {f:Func} {s:ChangeSpec} {w':World} {args:Array Value} {v:Value} {ds gs:List (DataW H)} {before:List MemPlace}
  (hW:DataW.Whole enc P f.params.toList s.vars false W args.toList ds gs before) (hvars:s.vars = []) (hfn:s.fn H (ds++gs) = { results := [.lit (.bool true)],args:=ds })
  (hlaid:laidOutB P=true) (hmaps:mapsRowed P=true) (hfull:∀ t e,t<P.types.size->P.underlying t=some (.slice e) → 0<P.cellsOf e) (hpar:∀ t∈f.params.toList,t<P.types.size)
  {tb:TypeId} (hres:f.resultTypes = #[tb]) (htb:P.underlying tb=some .bool)
  (hb:Below W.heap.size W w') (hv:v = .bool true):s.post enc P f false true false false W args v w':=by
 subst hv
 have hW0:=hW
 have hlt:∀ p∈before,p.block<W.heap.size:=fun p hp=>hW0.lt p hp
 obtain ⟨p,q,hA,hV,hpq,hz,hn⟩:=hW
 rw [hvars] at hV
 have hgq:gs = []/\q = []:=by
  cases gs with
  | nil=>exact ⟨rfl,by simpa [DataW.TrodVars] using hV⟩
  | cons=>simp [DataW.TrodVars] at hV
 obtain ⟨rfl,rfl⟩:=hgq
 rw [List.append_nil] at hpq
 have carry:∀ {ts:List TypeId} {vs:List Value} {ds:List (DataW H)} {ps:List MemPlace} {sp:Nat->Bool},DataW.TrodAll enc P W 0 sp true ts vs ds ps->(∀ x∈ps,W.sameAt w' x)->DataW.TrodAll enc P w' 0 sp true ts vs ds ps:=by
  intro ts
  induction ts with
  | nil=>intro vs ds ps sp h _;cases vs<;>cases ds<;>simp [DataW.TrodAll] at h ⊢;exact h
  | cons t ts ih=>
   intro vs ds ps sp h hs
   obtain ⟨v,vs',d,ds',p,q,rfl,rfl,rfl,⟨n,h1⟩,h2⟩:=trodAll_cons h
   exact ⟨p,q,⟨n,DataW.trod_carry n _ _ _ h1 (fun x hx=>hs x (List.mem_append_left _ hx))⟩,ih h2 (fun x hx=>hs x (List.mem_append_right _ hx)),rfl⟩
 have hargs:∀ sp:Nat->Bool,(∀ x∈p,sp x.block=true)->DataW.TrodAll enc P w' 0 sp true f.params.toList args.toList ds p:=fun sp hsp=>
  carry (DataW.TrodAll.respare (kids_rows hlaid hmaps) hfull hpar hA hsp) (fun x hx=>hb.same (hlt x (by rw [hpq];exact hx)))
 have hbool:∀ (b:Nat) (sp:Nat->Bool) (hd:Bool),DataW.Trod enc P w' b sp hd tb (.bool true) (.lit (.bool true)) []:=fun b sp hd=>⟨1,by simp [DataW.trod,htb,Value.cells]⟩
 have hrl:(Value.bool true).resultList f.resultTypes.size = [.bool true]:=by rw [hres];rfl
 have hresT:∀ (b:Nat) (sp:Nat->Bool) (hd:Bool),DataW.TrodAll enc P w' b sp hd f.resultTypes.toList ((Value.bool true).resultList f.resultTypes.size) [.lit (.bool true)] []:=fun b sp hd=>by
  rw [hrl,hres]
  exact ⟨[],[],hbool b sp hd,rfl,rfl⟩
 refine ⟨ds,[],before,[],p,[],hW0,?_,?_,?_,hb.frame _,fun h=>by cases h⟩
 ·rw [hfn];exact hresT _ _ _
 ·rw [hfn];exact hargs _ (fun x hx=>by have:=hlt x (by rw [hpq];exact hx);simpa using this)
 ·rw [hvars,hfn];simp [DataW.TrodVars]
theorem law_calls (hB:IsBulk bw) {f:FuncId} {fn:Func} {s:ChangeSpec} {args:Array Value} {ds gs:List (DataW H)} {before:List MemPlace} {base:Nat} {pars:List (Bool × List Ty)}
  (hval:∀ (j:Nat) t v,fn.params[j]? = some t->args[j]? = some v->Value.okWide P W .any base t v)
  (hW:DataW.Whole enc P fn.params.toList s.vars false W args.toList ds gs before) (hpars:fn.params.toList.mapM (parOf P)=some pars) (hvars:s.vars = []) (hfn:s.fn H (ds++gs) = { results := [.lit (.bool true)],args:=ds })
  (hlaid:laidOutB P=true) (hmaps:mapsRowed P=true) (hfull:((List.range P.types.size).all fun t=>match P.underlying t with|some (.slice e)=>decide (0<P.cellsOf e)|_=>true)=true) (hpar:(fn.params.toList.all fun t=>decide (t<P.types.size))=true)
  {tb:TypeId} (hres:fn.resultTypes = #[tb]) (htb:P.underlying tb=some .bool)
  (h:∀ as0,ArgsOk pars as0 (ds.map bw).sum->zp P f as0 [] fun r _=>r = .d (.bool true)) :
  Calls P f args W fun e W' => ∃ v,e = .returned v/\s.post enc P fn false true false false W args v W':=by
 have hW0:=hW
 obtain ⟨p,q,hA,hV,hpq,hz,hn⟩:=hW
 obtain ⟨as0,h1,h2⟩:=args_ok hB fn.params.toList pars args.toList ds p hpars hA (fun j t v hj hv=>⟨base,hval j t v (by simpa using hj) (by simpa using hv)⟩)
 have hS:Sim (fun _=>loc0) [] W:=⟨by simp,by simp⟩
 have:=(h as0 h1).2 (fun _=>loc0) W args.toList hS h2
 rw [Array.toArray_toList] at this
 refine this.mono fun e W' he => ?_
 cases e with
 | panicked c=>exact he.elim
 | outgrown=>exact he.elim
 | returned v=>
  obtain ⟨L', σ',r,st,S',hr,rfl⟩:=he
  have hvb:=hr.bool_inv
  have hb:Below W.heap.size W W':=⟨st.os,st.tape,st.output,st.size,fun k hk=>st.blk k hk (fun o=>by simp [Own])⟩
  exact ⟨v,rfl,law_end hW0 hvars hfn hlaid hmaps (slices_full_of P hfull) (fun t ht=>by simpa using List.all_eq_true.1 hpar t ht) hres htb hb hvb⟩
end
end Go.AW
