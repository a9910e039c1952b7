/- The base of an abstract logic over the model: data without addresses, objects of the call's own, and what a world must hold for them. -/
import Derived.Calls
import Derived.Below
import Derived.Laws.World
import Derived.Laws.NewBlocks
import Derived.Laws.Strings
import Derived.Laws.Wrap64
import Derived.CallsIn
import Derived.Laws.Cells
import Derived.Laws.Entries
import Derived.Tactics
import Derived.Laws.IdiomCopy
import Derived.WalkSpells
import Derived.Laws.StructEq
import Derived.Laws.Slices
import Derived.Laws.Strings2
import Derived.Laws.IdiomStrings
import Derived.Laws.BytesArg
set_option linter.all false
namespace Go.AW
inductive D where
 | int (k:IntKind) (n:Int)
 | bool (b:Bool)
 | str (s:List UInt8)
 | slice (es:List (List D))
 | nilp
 | nilmap
 | nilfn
inductive AV where
 | d (x:D)
 | agg (cs:List AV)
 | tup (vs:List AV)
 | own (t:Nat) (es:List (List D))
 | exact(es:List (List D))
 | bsl (id off len cap sz:Nat)
 | box (id off:Nat)
 | vp (cs:List D)
 | map (id:Nat)
 | iter (id:Nat)
 | fn (f:Fn) (first cap:List AV)
 | rsl (t g sz lo hi:Nat)
 | rpt (t g off:Nat)
  | nils
 | undef
inductive AObj where
 | box (cs:List AV)
 | tok (sz n:Nat)
 | iter (s:List UInt8) (pos:Nat)
 | map (es:List (AV × AV))
 | dead
 | row (g sz:Nat) (cs:List AV)
  | mapr (c:Nat) (bs:List Nat) (es:List (AV × AV))
  | mit (m:Option Nat) (c:Nat) (seen:List Nat)
  | lrec (b:Nat) (r:Loop) (vs:List AV)
structure Loc where
 a:Addr
 nil:Bool:=false
 cap:Nat:=0
def zfw (l:Loc):AObj->Nat->Nat->Prop
 | .box cs,b,o=>b=l.a.block/\l.a.off<=o/\o<l.a.off+cs.length
 | .tok sz n,b,o=>l.nil=false/\b=l.a.block/\l.a.off+n*sz<=o/\o<l.a.off+l.cap*sz
 | .iter _ _,b,_=>b=l.a.block
 | .map _,b,_=>b=l.a.block
 | .dead,_,_=>False
 | .mapr ..,b,_=>b=l.a.block
 | .mit ..,b,_=>b=l.a.block
 | .lrec ..,b,_=>b=l.a.block
 | .row _ sz _,b,o=>b=l.a.block/\l.a.off<=o/\o<l.a.off+l.cap*sz
def Own (L:Nat->Loc) (σ:List AObj) (b o:Nat):Prop:=∃(id:Nat) (x:AObj),σ[id]? = some x/\zfw (L id) x b o
def sc:AV->Bool
 | .undef|.agg _|.tup _=>false
 | _=>true
inductive RD (w:World) (O:Nat->Nat->Prop):D->Value->Prop
 | int (k n):RD w O (.int k n) (.int k n)
 | bool (b):RD w O (.bool b) (.bool b)
 | str (s):RD w O (.str s) (.string ⟨s.toArray⟩)
 | nilp:RD w O .nilp (.pointer none)
 | nilmap:RD w O .nilmap (.map none)
 | nilfn:RD w O .nilfn .nilFunc
 | empty (a:Option Addr) (cap:Nat):(a=none->cap=0)->RD w O (.slice []) (.slice a 0 cap)
 | slice (es:List (List D)) (b off cap sz:Nat) (vs:Nat->Value):es≠[]->es.length<=cap->(∀e∈es,e.length=sz) →
   (∀(i:Nat) e (j:Nat) d,es[i]? = some e->e[j]? = some d->w.cell? ⟨b,off+(i*sz+j),none⟩=some (vs (i*sz+j))/\¬O b (off+(i*sz+j))) →
   (∀(i:Nat) e (j:Nat) d,es[i]? = some e->e[j]? = some d->RD w O d (vs (i*sz+j))) →
   RD w O (.slice es) (.slice (some ⟨b,off,none⟩) es.length cap)
def AObj.kind:AObj->Nat
 | .box _=>0|.tok .. => 1|.iter .. => 2|.map _=>3|.dead=>4|.row .. => 5|.mapr .. => 3|.mit .. => 2|.lrec .. => 2
def zql (σ:List AObj) (id:Nat):Prop:=∃x,σ[id]? = some x/\x.kind≠1/\x.kind≠5
def zyj (σ:List AObj) (t:Nat):Prop:=∃x,σ[t]? = some x/\(x.kind=5∨x.kind=4)
inductive RV (w:World) (L:Nat->Loc) (σ:List AObj):AV->Value->Prop
 | d (x v):RD w (Own L σ) x v->RV w L σ (.d x) v
 | agg (cs:List AV) (vs:List Value):vs.length=cs.length->(∀(i:Nat) c v,cs[i]? = some c->vs[i]? = some v->RV w L σ c v)->RV w L σ (.agg cs) (.agg vs.toArray)
 | tup (cs:List AV) (vs:List Value):vs.length=cs.length->(∀(i:Nat) c v,cs[i]? = some c->vs[i]? = some v->RV w L σ c v)->RV w L σ (.tup cs) (.tuple vs.toArray)
 | own (t:Nat) (es:List (List D)) (v:Value) (sz n:Nat):σ[t]? = some (.tok sz n)->es.length<=n->(∀e∈es,e.length=sz)->RD w (Own L σ) (.slice es) v →
   (es.length=n->v=.slice (if (L t).nil then none else some (L t).a) n (L t).cap)->RV w L σ (.own t es) v
 | exact(es:List (List D)) (a:Option Addr):RD w (Own L σ) (.slice es) (.slice a es.length es.length)->RV w L σ (.exact es) (.slice a es.length es.length)
 | bsl (id off len cap sz:Nat):zql σ id->len<=cap->RV w L σ (.bsl id off len cap sz) (.slice (some ⟨(L id).a.block,(L id).a.off+off,none⟩) len cap)
 | box (id off:Nat):zql σ id->RV w L σ (.box id off) (.pointer (some ⟨(L id).a.block,(L id).a.off+off,none⟩))
 | vp (cs:List D) (b off:Nat):(∀(j:Nat) d,cs[j]? = some d->∃v,w.cell? ⟨b,off+j,none⟩=some v/\¬Own L σ b (off+j)/\RD w (Own L σ) d v) →
   RV w L σ (.vp cs) (.pointer (some ⟨b,off,none⟩))
 | map (id:Nat):zql σ id->RV w L σ (.map id) (.map (some (L id).a.block))
 | iter (id:Nat):zql σ id->RV w L σ (.iter id) (.pointer (some ⟨(L id).a.block,0,none⟩))
 | fn (f:Fn) (first cap:List AV) (fs cs:List Value):fs.length=first.length->cs.length=cap.length →
   (∀(i:Nat) c v,first[i]? = some c->fs[i]? = some v->RV w L σ c v)->(∀(i:Nat) c v,cap[i]? = some c->cs[i]? = some v->RV w L σ c v) →
   RV w L σ (.fn f first cap) (.func f fs.toArray cs.toArray)
 | rsl (t g sz lo hi:Nat) (a:Option Addr) (c:Nat):zyj σ t->(∀g' sz' cs,σ[t]? = some (.row g' sz' cs)->g<=g')->lo<=hi->hi-lo<=c->(a=none->c=0)->(0<c->∃b o,a=some ⟨b,o,none⟩) →
   (∀sz' cs,σ[t]? = some (.row g sz' cs)->sz'=sz/\hi*sz<=cs.length/\hi<=(L t).cap/\c=(L t).cap-lo/\(lo<(L t).cap->a=some ⟨(L t).a.block,(L t).a.off+lo*sz,none⟩))->RV w L σ (.rsl t g sz lo hi) (.slice a (hi-lo) c)
 | rpt (t g off:Nat) (b o:Nat):zyj σ t->(∀g' sz' cs,σ[t]? = some (.row g' sz' cs)->g<=g') →
   (∀sz' cs,σ[t]? = some (.row g sz' cs)->b=(L t).a.block/\o=(L t).a.off+off)->RV w L σ (.rpt t g off) (.pointer (some ⟨b,o,none⟩))
 | nils:RV w L σ .nils (.slice none 0 0)
 | undef (v):RV w L σ .undef v
def RE (w:World) (L:Nat->Loc) (σ:List AObj) (e:AV × AV) (m:MapEntry):Prop:=
 RV w L σ e.1 m.key/\RV w L σ e.2 m.val
def zmJ (ms:Array MapEntry) (clock:Nat):Prop:=(ms.toList.map (·.born)).Nodup/\∀x∈ms.toList,x.born<clock
def zsQ (w:World) (L:Nat->Loc) (σ:List AObj) (l:Loc):AObj->Prop
 | .box cs=>l.a.spot=none/\l.a.block<w.heap.size/\∀(j:Nat) c,cs[j]? = some c->w.frozen? ⟨l.a.block,l.a.off+j,none⟩=false/\∃v,w.cell? ⟨l.a.block,l.a.off+j,none⟩=some v/\RV w L σ c v
 | .tok sz n=>n<=l.cap/\(l.nil=true->l.cap=0)/\(l.nil=false→0<l.cap->l.a.spot=none) ∧
   (l.nil=false->∀o,l.a.off+n*sz<=o->o<l.a.off+l.cap*sz->(∃v,w.cell? ⟨l.a.block,o,none⟩=some v)/\w.frozen? ⟨l.a.block,o,none⟩=false)
 | .iter s pos=>w.heap[l.a.block]? = some (.stringIter ⟨s.toArray⟩ pos)
 | .map es=>∃ms clock,w.heap[l.a.block]? = some (.map ms clock)/\ms.size=es.length/\(∀(i:Nat) e m,es[i]? = some e->ms[i]? = some m->RE w L σ e m)/\zmJ ms clock
 | .mapr c bs es=>∃ms,w.heap[l.a.block]? = some (.map ms c)/\ms.size=es.length/\(∀(i:Nat) e m,es[i]? = some e->ms[i]? = some m->RE w L σ e m)/\zmJ ms c/\ms.toList.map (·.born)=bs
 | .mit none _ _=>w.heap[l.a.block]? = some (.mapIter none 0 #[] 0)
 | .mit (some m) c seen=>zql σ m/\w.heap[l.a.block]? = some (.mapIter (some (L m).a.block) c seen.toArray c)
 | .lrec b r vs=>l.a.block=b/\w.heap[b]? = some (.loop r)/\vs.length=r.tmps.size/\∀(i:Nat) c v,vs[i]? = some c->r.tmps[i]? = some v->RV w L σ c v
 | .dead=>True
 | .row _ sz cs=>0<sz/\(∃n,cs.length=n*sz/\n<=l.cap)/\(∀c∈cs,sc c=true)/\(0<l.cap->l.a.block<w.heap.size) ∧
   (∀o,l.a.off<=o->o<l.a.off+l.cap*sz->(∃v,w.cell? ⟨l.a.block,o,none⟩=some v)/\w.frozen? ⟨l.a.block,o,none⟩=false) ∧
   ∀(j:Nat) c,cs[j]? = some c->∃v,w.cell? ⟨l.a.block,l.a.off+j,none⟩=some v/\RV w L σ c v
structure Sim (L:Nat->Loc) (σ:List AObj) (w:World):Prop where
 obj:∀(id:Nat) x,σ[id]? = some x->zsQ w L σ (L id) x
 apart:∀(i j:Nat) x y b o,i≠j→σ[i]? = some x→σ[j]? = some y->zfw (L i) x b o->zfw (L j) y b o->False
def Turns (L L':Nat->Loc) (σ':List AObj) (id:Nat) (x:AObj):Prop:=
 ∃x',σ'[id]? = some x'∧(x.kind≠5->x'.kind=x.kind)/\(x.kind≠1->x.kind≠5->L' id=L id)/\(∀sz n,x=.tok sz n->∃n',x'=.tok sz n'∧n<=n'∧(n=n'→L' id=L id)) ∧
  ∀g sz cs,x=.row g sz cs->x'=.dead∨∃g' cs',x'=.row g' sz cs'∧g<=g'∧(g=g'→L' id=L id/\cs'.length=cs.length)
structure zdx (L:Nat->Loc) (σ:List AObj) (w:World) (L':Nat->Loc) (σ':List AObj) (w':World):Prop where
 os:w'.os=w.os
 tape:w'.tape=w.tape
 output:w'.output=w.output
 size:w.heap.size<=w'.heap.size
 blk:∀b,b<w.heap.size->(∀o,¬Own L σ b o)->w'.heap[b]? = w.heap[b]?
 cell:∀b o,b<w.heap.size->¬Own L σ b o->w'.cell? ⟨b,o,none⟩=w.cell? ⟨b,o,none⟩
 fz:∀b o,b<w.heap.size->¬Own L σ b o->w'.frozen? ⟨b,o,none⟩=w.frozen? ⟨b,o,none⟩
 own:∀b o,b<w.heap.size->Own L' σ' b o->Own L σ b o
 len:σ.length≤σ'.length
 turns:∀(id:Nat) x,σ[id]? = some x->Turns L L' σ' id x
theorem zo {α:Type}{l:List α}{i:Nat}{x:α}(h:l[i]? = some x):i<l.length:=(List.getElem?_eq_some_iff.1 h).1
theorem Turns.refl {L:Nat->Loc}{σ:List AObj}{id:Nat}{x:AObj}(h:σ[id]? = some x):Turns L L σ id x:=
 ⟨x,h,fun _=>rfl,fun _ _=>rfl,fun _ n e=>⟨n,e,Nat.le_refl _,fun _=>rfl⟩,fun g _ cs e=>.inr ⟨g,cs,e,Nat.le_refl _,fun _=>⟨rfl,rfl⟩⟩⟩
theorem Turns.stay {L L':Nat->Loc}{σ':List AObj}{id:Nat}{x:AObj}(h:σ'[id]? = some x)(hL:L' id=L id):Turns L L' σ' id x:=
 ⟨x,h,fun _=>rfl,fun _ _=>hL,fun _ n e=>⟨n,e,Nat.le_refl _,fun _=>hL⟩,fun g _ cs e=>.inr ⟨g,cs,e,Nat.le_refl _,fun _=>⟨hL,rfl⟩⟩⟩
theorem zdx.refl (L:Nat->Loc)(σ:List AObj)(w:World):zdx L σ w L σ w:=
 ⟨rfl,rfl,rfl,Nat.le_refl _,fun _ _ _=>rfl,fun _ _ _ _=>rfl,fun _ _ _ _=>rfl,fun _ _ _ h=>h,Nat.le_refl _,fun _ _ h=>.refl h⟩
theorem zdx.trans {L L1 L2:Nat->Loc}{σ σ1 σ2:List AObj}{w w1 w2:World}(h:zdx L σ w L1 σ1 w1)(k:zdx L1 σ1 w1 L2 σ2 w2):zdx L σ w L2 σ2 w2:=by
 refine⟨k.os.trans h.os,k.tape.trans h.tape,k.output.trans h.output,Nat.le_trans h.size k.size,fun b hb hn=>?_,fun b o hb hn=>?_,fun b o hb hn=>?_,fun b o hb ho=>?_,Nat.le_trans h.len k.len,fun id x hx=>?_⟩
 ·exact(k.blk b (Nat.lt_of_lt_of_le hb h.size) (fun o ho=>hn o (h.own b o hb ho))).trans (h.blk b hb hn)
 ·exact(k.cell b o (Nat.lt_of_lt_of_le hb h.size) (fun ho=>hn (h.own b o hb ho))).trans (h.cell b o hb hn)
 ·exact(k.fz b o (Nat.lt_of_lt_of_le hb h.size) (fun ho=>hn (h.own b o hb ho))).trans (h.fz b o hb hn)
 ·exact h.own b o hb (k.own b o (Nat.lt_of_lt_of_le hb h.size) ho)
 ·obtain⟨x1,h1,h2,h3,h4,h5⟩:=h.turns id x hx;obtain⟨x2,k1,k2,k3,k4,k5⟩:=k.turns id x1 h1;refine⟨x2,k1,fun h0=>(k2 (by rw[h2 h0];exact h0)).trans (h2 h0),fun hk hk5=>(k3 (by rw[h2 hk5];exact hk) (by rw[h2 hk5];exact hk5)).trans (h3 hk hk5),fun sz n e=>?_,fun g sz cs e=>?_⟩
  ·obtain⟨n1,e1,l1,f1⟩:=h4 sz n e;obtain⟨n2,e2,l2,f2⟩:=k4 sz n1 e1;exact⟨n2,e2,Nat.le_trans l1 l2,fun en=>(f2 (by omega)).trans (f1 (by omega))⟩
  ·rcases h5 g sz cs e with rfl|⟨g1,c1,rfl,l1,f1⟩
   ·left;have:=k2 (by simp[AObj.kind]);cases x2<;>simp[AObj.kind]at this;rfl
   ·rcases k5 g1 sz c1 rfl with rfl|⟨g2,c2,rfl,l2,f2⟩
    ·exact .inl rfl
    ·refine .inr ⟨g2,c2,rfl,Nat.le_trans l1 l2,fun eg=>?_⟩;have a:=f1 (by omega);have b:=f2 (by omega);exact⟨b.1.trans a.1,b.2.trans a.2⟩
theorem cell?_some_lt {w:World}{b o:Nat}{v:Value}(h:w.cell? ⟨b,o,none⟩=some v):b<w.heap.size:=by
 unfold World.cell? at h;split at h
 ·rename_i c e f hb;exact(Array.getElem?_eq_some_iff.1 hb).1
 ·cases h
theorem RD.mono {w w':World}{O O':Nat->Nat->Prop}(hc:∀b o,b<w.heap.size->¬O b o->w'.cell? ⟨b,o,none⟩=w.cell? ⟨b,o,none⟩)
  (ho:∀b o,b<w.heap.size->O' b o->O b o) {x:D} {v:Value} (h:RD w O x v):RD w' O' x v:=by
 induction h with
 | int k n=>exact .int k n
 | bool b=>exact .bool b
 | str s=>exact .str s
 | nilp=>exact .nilp
 | nilmap=>exact .nilmap
 | nilfn=>exact .nilfn
 | empty a cap h=>exact .empty a cap h
 | slice es b off cap sz vs h0 h1 h2 h3 _ ih=>
  refine .slice es b off cap sz vs h0 h1 h2 (fun i e j d hi hj=>?_) ih
  obtain⟨hcell,hn⟩:=h3 i e j d hi hj
  have hb:=cell?_some_lt hcell
  exact⟨(hc _ _ hb hn).trans hcell,fun h=>hn (ho _ _ hb h)⟩
theorem zdx.rd {L L':Nat->Loc}{σ σ':List AObj}{w w':World}(s:zdx L σ w L' σ' w'){x:D}{v:Value}(h:RD w (Own L σ) x v):RD w' (Own L' σ') x v:=
 h.mono s.cell s.own
theorem zdx.fixed {L L':Nat->Loc}{σ σ':List AObj}{w w':World}(s:zdx L σ w L' σ' w'){id:Nat}(h:zql σ id):zql σ' id/\L' id=L id:=by
 obtain⟨x,hx,hk,hk5⟩:=h;obtain⟨x',h1,h2,h3,_⟩:=s.turns id x hx;exact⟨⟨x',h1,by rw[h2 hk5];exact hk,by rw[h2 hk5];exact hk5⟩,h3 hk hk5⟩
theorem zdx.rowed {L L':Nat->Loc}{σ σ':List AObj}{w w':World}(s:zdx L σ w L' σ' w'){t:Nat}(h:zyj σ t) :
  zyj σ' t/\∀g' sz cs',σ'[t]? = some (.row g' sz cs')->∃g cs,σ[t]? = some (.row g sz cs)/\g<=g'∧(g=g'→L' t=L t/\cs'.length=cs.length):=by
 obtain⟨x,hx,hk⟩:=h;obtain⟨x',h1,h2,_,_,h5⟩:=s.turns t x hx;rcases hk with hk|hk
 ·cases x with
  | row g sz cs=>
   rcases h5 g sz cs rfl with rfl|⟨g',cs',rfl,hg,hh⟩
   ·exact⟨⟨_,h1,.inr rfl⟩,fun g' sz cs' e=>by rw[h1]at e;cases e⟩
   ·exact⟨⟨_,h1,.inl rfl⟩,fun g2 sz2 cs2 e=>by rw[h1]at e;cases e;exact⟨g,cs,hx,hg,hh⟩⟩
  | _=>simp[AObj.kind]at hk
 ·have:=h2 (by omega);exact⟨⟨x',h1,.inr (by omega)⟩,fun g' sz cs' e=>by rw[h1]at e;cases e;rw[hk]at this;simp[AObj.kind]at this⟩
theorem RV.rsl_turn {L L':Nat->Loc}{σ σ':List AObj}{w w':World}{t g sz lo hi:Nat}{v:Value}(hr:zyj σ' t)
  (ht:∀g' sz cs',σ'[t]? = some (.row g' sz cs')->∃g cs,σ[t]? = some (.row g sz cs)/\g<=g'∧(g=g'→L' t=L t/\cs'.length=cs.length)) (h:RV w L σ (.rsl t g sz lo hi) v):RV w' L' σ' (.rsl t g sz lo hi) v:=by
 cases h with
 | rsl _ _ _ _ _ a c h1 h2 h3 h4 h5 h6 h7=>
  refine .rsl t g sz lo hi a c hr (fun g' sz' cs e=>?_) h3 h4 h5 h6 (fun sz' cs e=>?_)
  ·obtain⟨g0,cs0,e0,hg,_⟩:=ht g' sz' cs e
   exact Nat.le_trans (h2 g0 sz' cs0 e0) hg
  ·obtain⟨g0,cs0,e0,hg,hh⟩:=ht g sz' cs e
   have:=h2 g0 sz' cs0 e0
   obtain rfl:g0=g:=by omega
   obtain⟨e1,e2⟩:=hh rfl
   rw[e1,e2]
   exact h7 sz' cs0 e0
theorem RV.rpt_turn {L L':Nat->Loc}{σ σ':List AObj}{w w':World}{t g off:Nat}{v:Value}(hr:zyj σ' t)
  (ht:∀g' sz cs',σ'[t]? = some (.row g' sz cs')->∃g cs,σ[t]? = some (.row g sz cs)/\g<=g'∧(g=g'→L' t=L t/\cs'.length=cs.length)) (h:RV w L σ (.rpt t g off) v):RV w' L' σ' (.rpt t g off) v:=by
 cases h with
 | rpt _ _ _ b o h1 h2 h3=>
  refine .rpt t g off b o hr (fun g' sz' cs e=>?_) (fun sz' cs e=>?_)
  ·obtain⟨g0,cs0,e0,hg,_⟩:=ht g' sz' cs e
   exact Nat.le_trans (h2 g0 sz' cs0 e0) hg
  ·obtain⟨g0,cs0,e0,hg,hh⟩:=ht g sz' cs e
   have:=h2 g0 sz' cs0 e0
   obtain rfl:g0=g:=by omega
   obtain⟨e1,_⟩:=hh rfl
   rw[e1]
   exact h3 sz' cs0 e0
theorem zdx.rv {L L':Nat->Loc}{σ σ':List AObj}{w w':World}(s:zdx L σ w L' σ' w'){x:AV}{v:Value}(h:RV w L σ x v):RV w' L' σ' x v:=by
 induction h with
 | d x v h=>exact .d x v (s.rd h)
 | agg cs vs hl _ ih=>exact .agg cs vs hl ih
 | tup cs vs hl _ ih=>exact .tup cs vs hl ih
 | own t es v sz n h1 h2 h3 h4 h5=>
  obtain⟨x',k1,_,_,k4,_⟩:=s.turns t _ h1
  obtain⟨n',e,hle,hn⟩:=k4 sz n rfl
  subst e
  exact .own t es v sz n' k1 (Nat.le_trans h2 hle) h3 (s.rd h4) (fun e=>by
   have e1:n=n':=by omega
   rw[hn e1,← e1];exact h5 (by omega))
 | exact es a h=>exact .exact es a (s.rd h)
 | bsl id off len cap sz h1 h2=>obtain⟨h3,h4⟩:=s.fixed h1;rw[← h4];exact .bsl id off len cap sz h3 h2
 | box id off h1=>obtain⟨h3,h4⟩:=s.fixed h1;rw[← h4];exact .box id off h3
 | vp cs b off h=>
  refine .vp cs b off fun j d hj=>?_
  obtain⟨v,h1,h2,h3⟩:=h j d hj
  have hb:=cell?_some_lt h1
  exact⟨v,(s.cell _ _ hb h2).trans h1,fun h=>h2 (s.own _ _ hb h),s.rd h3⟩
 | map id h1=>obtain⟨h3,h4⟩:=s.fixed h1;rw[← h4];exact .map id h3
 | iter id h1=>obtain⟨h3,h4⟩:=s.fixed h1;rw[← h4];exact .iter id h3
 | fn f first cap fs cs h1 h2 _ _ ih1 ih2=>exact .fn f first cap fs cs h1 h2 ih1 ih2
 | rsl t g sz lo hi a c h1 h2 h3 h4 h5 h6 h7=>exact RV.rsl_turn (w:=w) (s.rowed h1).1 (s.rowed h1).2 (.rsl t g sz lo hi a c h1 h2 h3 h4 h5 h6 h7)
 | rpt t g off b o h1 h2 h3=>exact RV.rpt_turn (w:=w) (s.rowed h1).1 (s.rowed h1).2 (.rpt t g off b o h1 h2 h3)
 | nils=>exact .nils
 | undef v=>exact .undef v
abbrev zW:=List (Nat × AV)
def zhn:zW->Nat->AV
 | [],_=>.undef
 | (j,a)::r,i=>match Nat.beq i j with|true=>a|false=>zhn r i
theorem zmw (j:Nat)(a:AV)(r:zW)(i:Nat):zhn ((j,a)::r) i=if i=j then a else zhn r i:=by
 simp only[zhn];by_cases h:i=j
 ·subst h;simp
 ·have hb:Nat.beq i j=false:=by
   cases hq:Nat.beq i j with
   | false=>rfl
   | true=>exact absurd (Nat.eq_of_beq_eq_true hq) h
  rw[if_neg h,hb]
theorem zsl:∀ {fr:zW} {i:Nat},(∀p∈fr,p.1≠i)->zhn fr i=.undef
 | [],_,_=>rfl
 | (j,a)::r,i,h=>by
  rw[zmw,if_neg (fun e=>h (j,a) (by simp) e.symm)];exact zsl (fun p hp=>h p (by simp[hp]))
structure FR (w:World) (L:Nat->Loc) (σ:List AObj) (fr:zW) (ts:Array Value):Prop where
 at_:∀(i:Nat) v,ts[i]? = some v->RV w L σ (zhn fr i) v
 keys:∀p∈fr,p.1<ts.size
theorem zdx.fr {L L':Nat->Loc}{σ σ':List AObj}{w w':World}(s:zdx L σ w L' σ' w'){fr:zW}{ts:Array Value}(h:FR w L σ fr ts):FR w' L' σ' fr ts:=
 ⟨fun i v h1=>s.rv (h.at_ i v h1),h.keys⟩
theorem FR.at' {w:World}{L:Nat->Loc}{σ:List AObj}{fr:zW}{ts:Array Value}(h:FR w L σ fr ts)(t:Nat):RV w L σ (zhn fr t) (ts.getD t undef):=by
 rcases Nat.lt_or_ge t ts.size with hl|hl
 ·have h2:ts[t]? = some ts[t]:=by simp[hl]
  have:=h.at_ t _ h2;simpa [Array.getD,hl] using this
 ·rw[zsl (fun p hp e=>by have:=h.keys p hp;omega)];exact .undef _
theorem FR.put {w:World}{L:Nat->Loc}{σ:List AObj}{fr:zW}{ts:Array Value}(h:FR w L σ fr ts){i:Nat}(hi:i<ts.size){a:AV}{v:Value}(hv:RV w L σ a v) :
  FR w L σ ((i,a)::fr) (ts.setIfInBounds i v):=by
 refine⟨fun j u h2=>?_,fun p hp=>?_⟩
 ·rw[Array.getElem?_setIfInBounds]at h2;rw[zmw];by_cases e:i=j
  ·subst e;rw[if_pos rfl];simp[hi]at h2;subst h2;exact hv
  ·rw[if_neg (fun h=>e h.symm)];rw[if_neg e]at h2;exact h.at_ j u h2
 ·rcases List.mem_cons.1 hp with rfl|hp
  ·simpa using hi
  ·simpa using h.keys p hp
open Go.RowKit
theorem RE.mono {L L':Nat->Loc}{σ σ':List AObj}{w w':World}(s:zdx L σ w L' σ' w'){e:AV × AV}{m:MapEntry}(h:RE w L σ e m):RE w' L' σ' e m:=
 ⟨s.rv h.1,s.rv h.2⟩
theorem zsQ.keep {L L':Nat->Loc}{σ σ':List AObj}{w w':World}(s:zdx L σ w L' σ' w'){l:Loc}{x:AObj}(h:zsQ w L σ l x)
  (hc:∀b o,zfw l x b o->w'.cell? ⟨b,o,none⟩=w.cell? ⟨b,o,none⟩/\w'.frozen? ⟨b,o,none⟩=w.frozen? ⟨b,o,none⟩)
  (hb:∀b,(∀o,zfw l x b o)->w'.heap[b]? = w.heap[b]?):zsQ w' L' σ' l x:=by
 cases x with
 | box cs=>
  obtain⟨h0,h00,h1⟩:=h
  refine⟨h0,Nat.lt_of_lt_of_le h00 s.size,fun j c hj=>?_⟩
  have hl:=zo hj
  obtain⟨e1,e2⟩:=hc l.a.block (l.a.off+j) ⟨rfl,by omega,by omega⟩
  obtain⟨h2,v,h3,h4⟩:=h1 j c hj
  exact⟨e2.trans h2,v,e1.trans h3,s.rv h4⟩
 | tok sz n=>
  obtain⟨h0,h1,h2,h3⟩:=h
  refine⟨h0,h1,h2,fun hn o ho ho'=>?_⟩
  obtain⟨e1,e2⟩:=hc l.a.block o ⟨hn,rfl,ho,ho'⟩
  obtain⟨⟨v,h4⟩,h5⟩:=h3 hn o ho ho'
  exact⟨⟨v,e1.trans h4⟩,e2.trans h5⟩
 | iter t pos=>exact(hb l.a.block (fun _=>rfl)).trans h
 | map es=>
  obtain⟨ms,clock,h1,h2,h3,h4⟩:=h
  exact⟨ms,clock,(hb l.a.block (fun _=>rfl)).trans h1,h2,fun i e m he hm=>(h3 i e m he hm).mono s,h4⟩
 | mapr c bs es=>
  obtain⟨ms,h1,h2,h3,h4,h5⟩:=h
  exact⟨ms,(hb l.a.block (fun _=>rfl)).trans h1,h2,fun i e m he hm=>(h3 i e m he hm).mono s,h4,h5⟩
 | mit m c seen=>
  cases m with
  | none=>exact(hb l.a.block (fun _=>rfl)).trans h
  | some m=>
   obtain⟨h1,h2⟩:=h
   obtain⟨k1,k2⟩:=s.fixed h1
   exact⟨k1,by rw[k2];exact(hb l.a.block (fun _=>rfl)).trans h2⟩
 | lrec b r vs=>
  obtain⟨h1,h2,h3,h4⟩:=h
  exact⟨h1,by have:=hb l.a.block (fun _=>rfl);rw[h1]at this;exact this.trans h2,h3,fun i c v hc hv=>s.rv (h4 i c v hc hv)⟩
 | dead=>trivial
 | row g sz cs=>
  obtain⟨h0,h1,hsc,hs,h2,h3⟩:=h
  obtain⟨n,hn,hc'⟩:=h1
  refine⟨h0,⟨n,hn,hc'⟩,hsc,fun h=>Nat.lt_of_lt_of_le (hs h) s.size,fun o ho ho'=>?_,fun j c hj=>?_⟩
  ·obtain⟨e1,e2⟩:=hc l.a.block o ⟨rfl,ho,ho'⟩
   obtain⟨⟨v,h4⟩,h5⟩:=h2 o ho ho'
   exact⟨⟨v,e1.trans h4⟩,e2.trans h5⟩
  ·have hl:=zo hj
   have:n*sz<=l.cap*sz:=Nat.mul_le_mul_right _ hc'
   obtain⟨e1,e2⟩:=hc l.a.block (l.a.off+j) ⟨rfl,by omega,by omega⟩
   obtain⟨v,h4,h5⟩:=h3 j c hj
   exact⟨v,e1.trans h4,s.rv h5⟩
theorem zfw.lt {L:Nat->Loc}{σ:List AObj}{w:World}{l:Loc}{x:AObj}(h:zsQ w L σ l x){b o:Nat}(hf:zfw l x b o):b<w.heap.size:=by
 cases x with
 | box cs=>obtain⟨rfl,_,_⟩:=hf;exact h.2.1
 | tok sz n=>obtain⟨h1,rfl,h2,h3⟩:=hf;obtain⟨⟨v,hv⟩,_⟩:=h.2.2.2 h1 o h2 h3;exact cell?_some_lt hv
 | iter s pos=>obtain rfl:b=l.a.block:=hf;exact(Array.getElem?_eq_some_iff.1 (h:w.heap[l.a.block]? = _)).1
 | map es=>obtain rfl:b=l.a.block:=hf;obtain⟨ms,c,h1,_⟩:=h;exact(Array.getElem?_eq_some_iff.1 h1).1
 | mapr c bs es=>obtain rfl:b=l.a.block:=hf;obtain⟨ms,h1,_⟩:=h;exact(Array.getElem?_eq_some_iff.1 h1).1
 | mit m c seen=>
  obtain rfl:b=l.a.block:=hf
  cases m with
  | none=>exact(Array.getElem?_eq_some_iff.1 (h:w.heap[l.a.block]? = _)).1
  | some m=>exact(Array.getElem?_eq_some_iff.1 h.2).1
 | lrec b' r vs=>obtain rfl:b=l.a.block:=hf;obtain⟨h1,h2,_⟩:=h;rw[h1];exact(Array.getElem?_eq_some_iff.1 h2).1
 | dead=>exact hf.elim
 | row g sz cs=>obtain⟨rfl,h2,h3⟩:=hf;obtain⟨⟨v,hv⟩,_⟩:=h.2.2.2.2.1 o h2 h3;exact cell?_some_lt hv
theorem Sim.own_lt {L:Nat->Loc}{σ:List AObj}{w:World}(S:Sim L σ w){b o:Nat}(h:Own L σ b o):b<w.heap.size:=by
 obtain⟨id,x,hx,hf⟩:=h;exact hf.lt (S.obj id x hx)
theorem frozen?_alloc_lt (w:World)(o:Obj)(a:Addr)(h:a.block<w.heap.size):(w.alloc o).frozen? a=w.frozen? a:=by
 simp only[World.alloc,World.frozen?,Array.getElem?_push];rw[if_neg (by omega)]
def zka (L:Nat->Loc) (k:Nat) (l:Loc):Nat->Loc:=fun i=>if i=k then l else L i
theorem zY (L:Nat->Loc)(k:Nat)(l:Loc):zka L k l k=l:=by simp[zka]
theorem zbG {L:Nat->Loc}{k i:Nat}{l:Loc}(h:i≠k):zka L k l i=L i:=by simp[zka,h]
theorem zes (L:Nat->Loc)(σ:List AObj){w:World}(o:Obj)(l:Loc)(x:AObj)(hf:∀b c,zfw l x b c->b=w.heap.size) :
  zdx L σ w (zka L σ.length l) (σ++[x]) (w.alloc o):=by
 refine⟨rfl,rfl,rfl,by simp,fun b hb _=>Below.heap_alloc w o b hb,fun b c hb _=>World.cell?_alloc_lt w o _ hb,fun b c hb _=>frozen?_alloc_lt w o _ hb,fun b c hb h=>?_,by simp,fun id y hy=>?_⟩
 ·obtain⟨id,y,hy,hfy⟩:=h;rcases Nat.lt_or_ge id σ.length with hl|hl
  ·rw[List.getElem?_append_left hl]at hy;rw[zbG (by omega)]at hfy;exact⟨id,y,hy,hfy⟩
  ·rw[List.getElem?_append_right hl]at hy;have e:id=σ.length:=by have:=zo hy;simp at this;omega
   subst e;simp at hy;subst hy;rw[zY]at hfy;exact absurd (hf _ _ hfy) (by omega)
 ·have hl:=zo hy;exact .stay (by rw[List.getElem?_append_left hl];exact hy) (zbG (by omega))
theorem zgf {L:Nat->Loc}{σ:List AObj}{w:World}(S:Sim L σ w)(o:Obj)(l:Loc)(x:AObj)(hf:∀b c,zfw l x b c->b=w.heap.size)
  (hx:zsQ (w.alloc o) (zka L σ.length l) (σ++[x]) l x):Sim (zka L σ.length l) (σ++[x]) (w.alloc o):=by
 have s:=zes L σ o l x hf;have hget:∀ {id y},(σ++[x])[id]? = some y->(id<σ.length∧σ[id]? = some y)∨(id=σ.length/\y=x):=fun{id y} hy=>by
  rcases Nat.lt_or_ge id σ.length with hl|hl
  ·rw[List.getElem?_append_left hl]at hy;exact .inl ⟨hl,hy⟩
  ·rw[List.getElem?_append_right hl]at hy;have e:id=σ.length:=by have:=zo hy;simp at this;omega
   subst e;simp at hy;exact .inr ⟨rfl,hy.symm⟩
 refine⟨fun id y hy=>?_,fun i j y z b c hij hy hz hfy hfz=>?_⟩
 ·rcases hget hy with⟨hl,hy⟩|⟨rfl,rfl⟩
  ·rw[zbG (by omega)];have ho:=S.obj id y hy;exact ho.keep s (fun b c hfc=>⟨World.cell?_alloc_lt w o _ (hfc.lt ho),frozen?_alloc_lt w o _ (hfc.lt ho)⟩) (fun b hb=>Below.heap_alloc w o b ((hb 0).lt ho))
  ·rw[zY];exact hx
 ·rcases hget hy with⟨hl,hy1⟩|⟨e1,e2⟩
  ·rw[zbG (by omega)]at hfy;rcases hget hz with⟨hl',hz1⟩|⟨e1,e2⟩
   ·rw[zbG (by omega)]at hfz;exact S.apart i j y z b c hij hy1 hz1 hfy hfz
   ·rw[e1,zY,e2]at hfz;have:=hf _ _ hfz;have:=hfy.lt (S.obj i y hy1);omega
  ·rw[e1,zY,e2]at hfy;rcases hget hz with⟨hl',hz1⟩|⟨e3,e4⟩
   ·rw[zbG (by omega)]at hfz;have:=hf _ _ hfy;have:=hfz.lt (S.obj j z hz1);omega
   ·exact hij (e1.trans e3.symm)
theorem Sim.drew {L:Nat->Loc}{σ:List AObj}{w:World}(S:Sim L σ w)(d:Nat):Sim L σ { w with drawn:=d }∧zdx L σ w L σ { w with drawn:=d }:=by
 have s:zdx L σ w L σ { w with drawn:=d }:=⟨rfl,rfl,rfl,Nat.le_refl _,fun _ _ _=>rfl,fun _ _ _ _=>rfl,fun _ _ _ _=>rfl,fun _ _ _ h=>h,Nat.le_refl _,fun _ _ h=>.refl h⟩;exact⟨⟨fun id x hx=>(S.obj id x hx).keep s (fun _ _ _=>⟨rfl,rfl⟩) (fun _ _=>rfl),S.apart⟩,s⟩
theorem zvX {L:Nat->Loc}{σ:List AObj}{id:Nat}{x x':AObj}(hx:σ[id]? = some x)(hf:∀b o,zfw (L id) x' b o->zfw (L id) x b o){b o:Nat}(h:Own L (σ.set id x') b o):Own L σ b o:=by
 obtain⟨i,y,hy,hfy⟩:=h;rw[List.getElem?_set]at hy;by_cases e:id=i
 ·subst e;simp[zo hx]at hy;subst hy;exact⟨id,x,hx,hf _ _ hfy⟩
 ·simp[e]at hy;exact⟨i,y,hy,hfy⟩
theorem frozen?_setCell (w:World)(a b:Addr)(v:Value):(w.setCell a v).frozen? b=w.frozen? b:=by
 simp only[World.setCell,World.frozen?,Array.getElem?_modify];by_cases h:a.block=b.block
 ·simp only[h,if_true];cases hh:w.heap[b.block]? with
  | none=>simp
  | some x=>cases x<;>simp
 ·simp[h]
theorem zaA {σ:List AObj}{id i:Nat}{x y:AObj}(h:(σ.set id x)[i]? = some y):(i=id/\y=x)∨(i≠id∧σ[i]? = some y):=by
 rw[List.getElem?_set]at h;by_cases e:id=i
 ·subst e;by_cases hl:id<σ.length
  ·simp[hl]at h;exact .inl ⟨rfl,h.symm⟩
  ·simp[hl]at h
 ·simp[e]at h;exact .inr ⟨fun e'=>e e'.symm,h⟩
theorem zpt {L:Nat->Loc}{σ:List AObj}{w:World}{id:Nat}{x x':AObj}(hx:σ[id]? = some x)(hk:x'.kind=x.kind)
  (hf:∀b o,zfw (L id) x' b o->zfw (L id) x b o) (htok:∀sz n,x=.tok sz n->∃n',x'=.tok sz n'∧n<=n') (hrow:∀g sz cs,x=.row g sz cs->∃cs',x'=.row g sz cs'∧cs'.length=cs.length) {b o:Nat} (hin:zfw (L id) x b o) (v:Value) :
  zdx L σ w L (σ.set id x') (w.setCell ⟨b,o,none⟩ v):=by
 have hown:Own L σ b o:=⟨id,x,hx,hin⟩;refine⟨rfl,rfl,rfl,by simp,fun c hc hn=>?_,fun c p hc hn=>?_,fun c p hc hn=>frozen?_setCell w _ _ v,fun c p _ h=>zvX hx hf h,by simp,fun i y hy=>?_⟩
 ·exact Below.heap_setCell w _ v c (fun e=>by dsimp only at e;subst e;exact hn o hown)
 ·exact World.cell?_setCell_other w _ _ v (fun e=>by cases e;exact hn hown)
 ·by_cases e:id=i
  ·subst e;rw[hx]at hy;cases hy;refine⟨x',by simp[zo hx],fun _=>hk,fun _ _=>rfl,fun sz n e=>?_,fun g sz cs e=>?_⟩
   ·obtain⟨n',h1,h2⟩:=htok sz n e;exact⟨n',h1,h2,fun _=>rfl⟩
   ·obtain⟨cs',h1,h2⟩:=hrow g sz cs e;exact .inr ⟨g,cs',h1,Nat.le_refl _,fun _=>⟨rfl,h2⟩⟩
  ·exact .stay (by rw[List.getElem?_set_ne e];exact hy) rfl
theorem zvK {L:Nat->Loc}{σ:List AObj}{w:World}(S:Sim L σ w){id:Nat}{x x':AObj}(hx:σ[id]? = some x)(hk:x'.kind=x.kind)
  (hf:∀b o,zfw (L id) x' b o->zfw (L id) x b o) (htok:∀sz n,x=.tok sz n->∃n',x'=.tok sz n'∧n<=n') (hrow:∀g sz cs,x=.row g sz cs->∃cs',x'=.row g sz cs'∧cs'.length=cs.length) {b o:Nat} (hin:zfw (L id) x b o) (v:Value)
  (hok:zsQ (w.setCell ⟨b,o,none⟩ v) L (σ.set id x') (L id) x'):Sim L (σ.set id x') (w.setCell ⟨b,o,none⟩ v):=by
 have s:=zpt hx hk hf htok hrow hin v (w:=w);refine⟨fun i y hy=>?_,fun i j y z c p hij hy hz hfy hfz=>?_⟩
 ·rcases zaA hy with⟨rfl,rfl⟩|⟨hne,hy⟩
  ·exact hok
  ·have ho:=S.obj i y hy;refine ho.keep s (fun c p hfp=>⟨World.cell?_setCell_other w _ _ v (fun e=>?_),frozen?_setCell w _ _ v⟩) (fun c hc=>?_)
   ·cases e;exact S.apart i id y x b o hne hy hx hfp hin
   ·refine Below.heap_setCell w _ v c (fun e=>?_);dsimp only at e;subst e;exact S.apart i id y x _ o hne hy hx (hc o) hin
 ·have key:∀ {i y},(σ.set id x')[i]? = some y->zfw (L i) y c p->∃y',σ[i]? = some y'∧zfw (L i) y' c p:=fun{i y} hy hfy=>by
   rcases zaA hy with⟨rfl,rfl⟩|⟨_,hy⟩
   ·exact⟨x,hx,hf _ _ hfy⟩
   ·exact⟨y,hy,hfy⟩
  obtain⟨y',hy',hfy'⟩:=key hy hfy;obtain⟨z',hz',hfz'⟩:=key hz hfz;exact S.apart i j y' z' c p hij hy' hz' hfy' hfz'
theorem box_store {L:Nat->Loc}{σ:List AObj}{w:World}(S:Sim L σ w){id:Nat}{cs:List AV}(hx:σ[id]? = some (.box cs)){j:Nat}(hj:j<cs.length){c:AV}{v:Value}(hv:RV w L σ c v) :
  zdx L σ w L (σ.set id (.box (cs.set j c))) (w.setCell ⟨(L id).a.block,(L id).a.off+j,none⟩ v) ∧
  Sim L (σ.set id (.box (cs.set j c))) (w.setCell ⟨(L id).a.block,(L id).a.off+j,none⟩ v):=by
 have hf:∀b o,zfw (L id) (.box (cs.set j c)) b o->zfw (L id) (.box cs) b o:=fun b o h=>by simpa [zfw] using h
 have hin:zfw (L id) (.box cs) (L id).a.block ((L id).a.off+j):=⟨rfl,by omega,by omega⟩;have s:=zpt (x:=.box cs) (x':=.box (cs.set j c)) hx rfl hf (fun _ _ e=>by cases e) (fun _ _ _ e=>by cases e) hin v (w:=w);refine⟨s,zvK S (x:=.box cs) (x':=.box (cs.set j c)) hx rfl hf (fun _ _ e=>by cases e) (fun _ _ _ e=>by cases e) hin v ?_⟩;obtain⟨h0,h00,h1⟩:=S.obj id _ hx;refine⟨h0,by simpa using h00,fun k d hk=>?_⟩;rw[List.getElem?_set]at hk;by_cases e:j=k
 ·subst e;simp[hj]at hk;subst hk;obtain⟨c',hc'⟩:∃c',cs[j]? = some c':=⟨cs[j],by simp[hj]⟩;obtain⟨h2,u,h3,_⟩:=h1 j c' hc';exact⟨(frozen?_setCell w _ _ v).trans h2,v,World.cell?_setCell_same w _ v h3,s.rv hv⟩
 ·simp[e]at hk;obtain⟨h2,u,h3,h4⟩:=h1 k d hk;exact⟨(frozen?_setCell w _ _ v).trans h2,u,(World.cell?_setCell_other w _ _ v (fun e'=>e (by have:=congrArg Addr.off e';dsimp only at this;omega))).trans h3,s.rv h4⟩
theorem tok_store {L:Nat->Loc}{σ:List AObj}{w:World}(S:Sim L σ w){id sz n:Nat}(hx:σ[id]? = some (.tok sz n)){o:Nat}(hn:(L id).nil=false)(h1:(L id).a.off+n*sz<=o)(h2:o<(L id).a.off+(L id).cap*sz)(v:Value) :
  zdx L σ w L σ (w.setCell ⟨(L id).a.block,o,none⟩ v)/\Sim L σ (w.setCell ⟨(L id).a.block,o,none⟩ v):=by
 have e:σ.set id (.tok sz n)=σ:=by
  obtain⟨hl,hh⟩:=List.getElem?_eq_some_iff.1 hx;rw[← hh];exact List.set_getElem_self hl
 have hin:zfw (L id) (.tok sz n) (L id).a.block o:=⟨hn,rfl,h1,h2⟩;have s:=zpt (x:=.tok sz n) (x':=.tok sz n) hx rfl (fun _ _ h=>h) (fun _ n' e=>⟨n',e,Nat.le_refl _⟩) (fun _ _ _ e=>by cases e) hin v (w:=w);have s':=zvK S (x:=.tok sz n) (x':=.tok sz n) hx rfl (fun _ _ h=>h) (fun _ n' e=>⟨n',e,Nat.le_refl _⟩) (fun _ _ _ e=>by cases e) hin v (by
  obtain⟨h0,h3,h4,h5⟩:=S.obj id _ hx;refine⟨h0,h3,h4,fun hn p hp hp'=>?_⟩;obtain⟨⟨u,hu⟩,hz⟩:=h5 hn p hp hp';refine⟨?_,(frozen?_setCell w _ _ v).trans hz⟩;by_cases e:o=p
  ·subst e;exact⟨v,World.cell?_setCell_same w _ v hu⟩
  ·exact⟨u,(World.cell?_setCell_other w _ _ v (fun e'=>e (by cases e';rfl))).trans hu⟩)
 rw[e]at s s';exact⟨s,s'⟩
theorem tok_fill {L:Nat->Loc}{σ:List AObj}{w:World}(S:Sim L σ w){id sz n m:Nat}(hx:σ[id]? = some (.tok sz n))(hnm:n<=m)(hm:m<=(L id).cap) :
  zdx L σ w L (σ.set id (.tok sz m)) w/\Sim L (σ.set id (.tok sz m)) w:=by
 have hmul:n*sz<=m*sz:=Nat.mul_le_mul_right sz hnm;have hf:∀b o,zfw (L id) (.tok sz m) b o->zfw (L id) (.tok sz n) b o:=fun b o h=>⟨h.1,h.2.1,by have:=h.2.2.1;omega,h.2.2.2⟩;have s:zdx L σ w L (σ.set id (.tok sz m)) w:=by
  refine⟨rfl,rfl,rfl,Nat.le_refl _,fun _ _ _=>rfl,fun _ _ _ _=>rfl,fun _ _ _ _=>rfl,fun c p _ h=>zvX hx hf h,by simp,fun i y hy=>?_⟩;by_cases e:id=i
  ·subst e;rw[hx]at hy;cases hy;refine⟨.tok sz m,by simp[zo hx],fun _=>rfl,fun _ _=>rfl,fun sz' n' e=>?_,fun _ _ _ e=>by cases e⟩;cases e;exact⟨m,rfl,hnm,fun _=>rfl⟩
  ·exact .stay (by rw[List.getElem?_set_ne e];exact hy) rfl
 refine⟨s,⟨fun i y hy=>?_,fun i j y z c p hij hy hz hfy hfz=>?_⟩⟩
 ·rcases zaA hy with⟨rfl,rfl⟩|⟨hne,hy⟩
  ·obtain⟨h0,h1,h2,h3⟩:=S.obj i _ hx;exact⟨hm,h1,h2,fun hn o ho ho'=>h3 hn o (by omega) ho'⟩
  ·exact(S.obj i y hy).keep s (fun _ _ _=>⟨rfl,rfl⟩) (fun _ _=>rfl)
 ·have key:∀ {i y},(σ.set id (.tok sz m))[i]? = some y->zfw (L i) y c p->∃y',σ[i]? = some y'∧zfw (L i) y' c p:=fun{i y} hy hfy=>by
   rcases zaA hy with⟨rfl,rfl⟩|⟨_,hy⟩
   ·exact⟨_,hx,hf _ _ hfy⟩
   ·exact⟨y,hy,hfy⟩
  obtain⟨y',hy',hfy'⟩:=key hy hfy;obtain⟨z',hz',hfz'⟩:=key hz hfz;exact S.apart i j y' z' c p hij hy' hz' hfy' hfz'
theorem tok_move {L:Nat->Loc}{σ:List AObj}{w:World}(S:Sim L σ w){id sz n m:Nat}(hx:σ[id]? = some (.tok sz n))(hnm:n<m)(cells:Array Value)(elem:TypeId)(cap:Nat)(hm:m<=cap)(hc:cells.size=cap*sz) :
  zdx L σ w (zka L id { a:=⟨w.heap.size,0,none⟩,cap:=cap }) (σ.set id (.tok sz m)) (w.alloc (.cells cells elem)) ∧
  Sim (zka L id { a:=⟨w.heap.size,0,none⟩,cap:=cap }) (σ.set id (.tok sz m)) (w.alloc (.cells cells elem)):=by
 have s:zdx L σ w (zka L id { a:=⟨w.heap.size,0,none⟩,cap:=cap }) (σ.set id (.tok sz m)) (w.alloc (.cells cells elem)):=by
  refine⟨rfl,rfl,rfl,by simp,fun b hb _=>Below.heap_alloc w _ b hb,fun b c hb _=>World.cell?_alloc_lt w _ _ hb,fun b c hb _=>frozen?_alloc_lt w _ _ hb,fun b c hb h=>?_,by simp,fun i y hy=>?_⟩
  ·obtain⟨i,y,hy,hfy⟩:=h;rcases zaA hy with⟨rfl,rfl⟩|⟨hne,hy⟩
   ·rw[zY]at hfy;exact absurd hfy.2.1 (by dsimp only;omega)
   ·rw[zbG hne]at hfy;exact⟨i,y,hy,hfy⟩
  ·by_cases e:id=i
   ·subst e;rw[hx]at hy;cases hy;refine⟨.tok sz m,by simp[zo hx],fun _=>rfl,fun h=>absurd rfl h,fun sz' n' e=>?_,fun _ _ _ e=>by cases e⟩;cases e;exact⟨m,rfl,Nat.le_of_lt hnm,fun e=>by omega⟩
   ·exact .stay (by rw[List.getElem?_set_ne e];exact hy) (zbG (fun h=>e h.symm))
 refine⟨s,⟨fun i y hy=>?_,fun i j y z c p hij hy hz hfy hfz=>?_⟩⟩
 ·rcases zaA hy with⟨rfl,rfl⟩|⟨hne,hy⟩
  ·rw[zY];refine⟨hm,fun h=>Bool.noConfusion h,fun _ _=>rfl,fun _ o ho ho'=>⟨?_,World.frozen?_alloc_at cells elem _ o rfl⟩⟩;dsimp only at ho ho';have hlt:o<cells.size:=by omega
   exact⟨cells[o],by rw[World.cell?_alloc_new];simp[hlt]⟩
  ·rw[zbG hne];have ho:=S.obj i y hy;exact ho.keep s (fun b c hfc=>⟨World.cell?_alloc_lt w _ _ (hfc.lt ho),frozen?_alloc_lt w _ _ (hfc.lt ho)⟩) (fun b hb=>Below.heap_alloc w _ b ((hb 0).lt ho))
 ·rcases zaA hy with⟨e1,e2⟩|⟨hne,hy1⟩
  ·rw[e1,zY,e2]at hfy;rcases zaA hz with⟨e3,e4⟩|⟨hne',hz1⟩
   ·exact hij (e1.trans e3.symm)
   ·rw[zbG hne']at hfz;have h1:=hfz.lt (S.obj j z hz1);have h2:c=w.heap.size:=hfy.2.1;omega
  ·rw[zbG hne]at hfy;rcases zaA hz with⟨e3,e4⟩|⟨hne',hz1⟩
   ·rw[e3,zY,e4]at hfz;have h1:=hfy.lt (S.obj i y hy1);have h2:c=w.heap.size:=hfz.2.1;omega
   ·rw[zbG hne']at hfz;exact S.apart i j y z c p hij hy1 hz1 hfy hfz
theorem znd {L:Nat->Loc}{σ:List AObj}{w:World}(S:Sim L σ w){id:Nat}{x x':AObj}(hx:σ[id]? = some x)(hk:x'.kind=x.kind)(h2:2<=x.kind)(h3:x.kind<=3)(o:Obj)
  (hok:(w':World)->w'={ w with heap:=w.heap.setIfInBounds (L id).a.block o }→zdx L σ w L (σ.set id x') w'→zsQ w' L (σ.set id x') (L id) x') :
  zdx L σ w L (σ.set id x') { w with heap:=w.heap.setIfInBounds (L id).a.block o }∧Sim L (σ.set id x') { w with heap:=w.heap.setIfInBounds (L id).a.block o }:=by
 have hall:∀b o,zfw (L id) x b o↔b=(L id).a.block:=fun b o=>by
  cases x<;>simp_all[AObj.kind,zfw]
 have hall':∀b o,zfw (L id) x' b o↔b=(L id).a.block:=fun b o=>by
  cases x<;>cases x' <;> simp_all[AObj.kind,zfw]
 have hf:∀b o,zfw (L id) x' b o->zfw (L id) x b o:=fun b o h=>(hall b o).2 ((hall' b o).1 h);have hget:∀b,b≠(L id).a.block->(w.heap.setIfInBounds (L id).a.block o)[b]? = w.heap[b]?:=fun b hb=>by
  rw[Array.getElem?_setIfInBounds,if_neg (fun e=>hb e.symm)]
 have hown:∀o,Own L σ (L id).a.block o:=fun o=>⟨id,x,hx,(hall _ _).2 rfl⟩;have s:zdx L σ w L (σ.set id x') { w with heap:=w.heap.setIfInBounds (L id).a.block o }:=by
  refine⟨rfl,rfl,rfl,by simp,fun b _ hn=>hget b (fun e=>hn 0 (e▸hown 0)),fun b c _ hn=>?_,fun b c _ hn=>?_,fun c p _ h=>zvX hx hf h,by simp,fun i y hy=>?_⟩
  ·exact World.cell?_of_block (w:=w) (hget b (fun e=>hn (e▸hown c)))
  ·exact World.frozen?_of_block (w:=w) (hget b (fun e=>hn (e▸hown c)))
  ·by_cases e:id=i
   ·subst e;rw[hx]at hy;cases hy;refine⟨x',by simp[zo hx],fun _=>hk,fun _ _=>rfl,fun sz n e=>?_,fun g sz cs e=>?_⟩
    ·subst e;simp[AObj.kind]at h2
    ·subst e;simp[AObj.kind]at h3
   ·exact .stay (by rw[List.getElem?_set_ne e];exact hy) rfl
 refine⟨s,⟨fun i y hy=>?_,fun i j y z c p hij hy hz hfy hfz=>?_⟩⟩
 ·rcases zaA hy with⟨rfl,rfl⟩|⟨hne,hy⟩
  ·exact hok _ rfl s
  ·have hno:∀b c,zfw (L i) y b c->b≠(L id).a.block:=fun b c hfc e=>S.apart i id y x b c hne hy hx hfc ((hall _ _).2 e);refine(S.obj i y hy).keep s (fun b c hfc=>⟨World.cell?_of_block (w:=w) (hget b (hno b c hfc)),World.frozen?_of_block (w:=w) (hget b (hno b c hfc))⟩) (fun b hb=>hget b (hno b 0 (hb 0)))
 ·have key:∀ {i y},(σ.set id x')[i]? = some y->zfw (L i) y c p->∃y',σ[i]? = some y'∧zfw (L i) y' c p:=fun{i y} hy hfy=>by
   rcases zaA hy with⟨rfl,rfl⟩|⟨_,hy⟩
   ·exact⟨_,hx,hf _ _ hfy⟩
   ·exact⟨y,hy,hfy⟩
  obtain⟨y',hy',hfy'⟩:=key hy hfy;obtain⟨z',hz',hfz'⟩:=key hz hfz;exact S.apart i j y' z' c p hij hy' hz' hfy' hfz'
theorem row_store {L:Nat->Loc}{σ:List AObj}{w:World}(S:Sim L σ w){id g sz:Nat}{cs:List AV}(hx:σ[id]? = some (.row g sz cs)){j:Nat}(hj:j<(L id).cap*sz){c:AV}{v:Value}(hv:RV w L σ c v)(hsc:sc c=true) :
  zdx L σ w L (σ.set id (.row g sz (cs.set j c))) (w.setCell ⟨(L id).a.block,(L id).a.off+j,none⟩ v) ∧
  Sim L (σ.set id (.row g sz (cs.set j c))) (w.setCell ⟨(L id).a.block,(L id).a.off+j,none⟩ v):=by
 have hf:∀b o,zfw (L id) (.row g sz (cs.set j c)) b o->zfw (L id) (.row g sz cs) b o:=fun b o h=>h;have hin:zfw (L id) (.row g sz cs) (L id).a.block ((L id).a.off+j):=⟨rfl,by omega,by omega⟩;have hrow:∀g' sz' cs',AObj.row g sz cs=.row g' sz' cs'→∃cs2,AObj.row g sz (cs.set j c)=.row g' sz' cs2/\cs2.length=cs'.length:=fun g' sz' cs' e=>by
  cases e;exact⟨_,rfl,by simp⟩
 have s:=zpt (x:=.row g sz cs) (x':=.row g sz (cs.set j c)) hx rfl hf (fun _ _ e=>by cases e) hrow hin v (w:=w);refine⟨s,zvK S (x:=.row g sz cs) (x':=.row g sz (cs.set j c)) hx rfl hf (fun _ _ e=>by cases e) hrow hin v ?_⟩;obtain⟨h0,h1,hsc0,hs,h2,h3⟩:=S.obj id _ hx;refine⟨h0,by simpa using h1,fun d hd=>?_,by simpa using hs,fun o ho ho'=>?_,fun k d hk=>?_⟩
 ·rcases List.mem_or_eq_of_mem_set hd with h|rfl
  ·exact hsc0 d h
  ·exact hsc
 ·obtain⟨⟨u,h4⟩,h5⟩:=h2 o ho ho';refine⟨?_,(frozen?_setCell w _ _ v).trans h5⟩;by_cases e:(L id).a.off+j=o
  ·subst e;exact⟨v,World.cell?_setCell_same w _ v h4⟩
  ·exact⟨u,(World.cell?_setCell_other w _ _ v (fun e'=>e (by cases e';rfl))).trans h4⟩
 ·obtain⟨n,hn,hcap⟩:=h1;have hmul:n*sz<=(L id).cap*sz:=Nat.mul_le_mul_right _ hcap;rw[List.getElem?_set]at hk;by_cases e:j=k
  ·subst e;by_cases hl:j<cs.length
   ·simp[hl]at hk;subst hk;obtain⟨⟨u,h4⟩,_⟩:=h2 ((L id).a.off+j) (by omega) (by omega);exact⟨v,World.cell?_setCell_same w _ v h4,s.rv hv⟩
   ·simp[hl]at hk
  ·simp[e]at hk;obtain⟨u,h4,h5⟩:=h3 k d hk;exact⟨u,(World.cell?_setCell_other w _ _ v (fun e'=>e (by have:=congrArg Addr.off e';dsimp only at this;omega))).trans h4,s.rv h5⟩
theorem zzV {L:Nat->Loc}{σ:List AObj}{w w':World}(S:Sim L σ w){id g sz:Nat}{cs:List AV}(hx:σ[id]? = some (.row g sz cs))(l:Loc)(cs':List AV)
  (hw:w'=w∨∃o,w'=w.alloc o)
  (hf:∀b o,zfw l (.row (g+1) sz cs') b o->zfw (L id) (.row g sz cs) b o∨b=w.heap.size)
  (hok:(∀x v,RV w L σ x v->RV w' (zka L id l) (σ.set id (.row (g+1) sz cs')) x v)->zsQ w' (zka L id l) (σ.set id (.row (g+1) sz cs')) l (.row (g+1) sz cs')) :
  zdx L σ w (zka L id l) (σ.set id (.row (g+1) sz cs')) w'∧Sim (zka L id l) (σ.set id (.row (g+1) sz cs')) w':=by
 have hsize:w.heap.size<=w'.heap.size:=by rcases hw with rfl|⟨o,rfl⟩<;>simp
 have hblk:∀b,b<w.heap.size->w'.heap[b]? = w.heap[b]?:=fun b hb=>by
  rcases hw with rfl|⟨o,rfl⟩
  ·rfl
  ·exact Below.heap_alloc w o b hb
 have hown:∀b o,b<w.heap.size->Own (zka L id l) (σ.set id (.row (g+1) sz cs')) b o->Own L σ b o:=fun b o hb h=>by
  obtain⟨i,y,hy,hfy⟩:=h;rcases zaA hy with⟨rfl,rfl⟩|⟨hne,hy⟩
  ·rw[zY]at hfy;rcases hf b o hfy with h|h
   ·exact⟨i,_,hx,h⟩
   ·omega
  ·rw[zbG hne]at hfy;exact⟨i,y,hy,hfy⟩
 have s:zdx L σ w (zka L id l) (σ.set id (.row (g+1) sz cs')) w':=by
  refine⟨by rcases hw with rfl|⟨o,rfl⟩<;>rfl,by rcases hw with rfl|⟨o,rfl⟩<;>rfl,by rcases hw with rfl|⟨o,rfl⟩<;>rfl,hsize,fun b hb _=>hblk b hb,fun b c hb _=>World.cell?_of_block (w:=w) (hblk b hb),fun b c hb _=>World.frozen?_of_block (w:=w) (hblk b hb),hown,by simp,fun i y hy=>?_⟩;by_cases e:id=i
  ·subst e;rw[hx]at hy;cases hy;exact⟨.row (g+1) sz cs',by simp[zo hx],fun h=>absurd rfl h,fun _ h=>absurd rfl h,fun _ _ e=>(by cases e),fun g0 sz0 c0 e=>by cases e;exact .inr ⟨g+1,cs',rfl,by omega,fun e=>by omega⟩⟩
  ·exact .stay (by rw[List.getElem?_set_ne e];exact hy) (zbG (fun h=>e h.symm))
 refine⟨s,⟨fun i y hy=>?_,fun i j y z c p hij hy hz hfy hfz=>?_⟩⟩
 ·rcases zaA hy with⟨rfl,rfl⟩|⟨hne,hy⟩
  ·rw[zY];exact hok fun x v h=>s.rv h
  ·rw[zbG hne];have ho:=S.obj i y hy;exact ho.keep s (fun b c hfc=>⟨World.cell?_of_block (w:=w) (hblk b (hfc.lt ho)),World.frozen?_of_block (w:=w) (hblk b (hfc.lt ho))⟩) (fun b hb=>hblk b ((hb 0).lt ho))
 ·have key:∀ {i y},(σ.set id (.row (g+1) sz cs'))[i]? = some y->zfw (zka L id l i) y c p->(i=id/\c=w.heap.size)∨∃y',σ[i]? = some y'∧zfw (L i) y' c p:=fun{i y} hy hfy=>by
   rcases zaA hy with⟨rfl,rfl⟩|⟨hne,hy⟩
   ·rw[zY]at hfy;rcases hf _ _ hfy with h|h
    ·exact .inr ⟨_,hx,h⟩
    ·exact .inl ⟨rfl,h⟩
   ·rw[zbG hne]at hfy;exact .inr ⟨y,hy,hfy⟩
  rcases key hy hfy with⟨e1,e2⟩|⟨y',hy',hfy'⟩
  ·rcases key hz hfz with⟨e3,_⟩|⟨z',hz',hfz'⟩
   ·exact hij (e1.trans e3.symm)
   ·have:=hfz'.lt (S.obj j z' hz');omega
  ·rcases key hz hfz with⟨e3,e4⟩|⟨z',hz',hfz'⟩
   ·have:=hfy'.lt (S.obj i y' hy');omega
   ·exact S.apart i j y' z' c p hij hy' hz' hfy' hfz'
inductive Opd where
 | tmp (t:Nat)
 | lit (a:AV)
inductive SK where
 | str
 | sl (sz:Nat)
 | arr (n sz:Nat)
inductive LK where
 | str|sl|map
 | arr (n:Nat)
inductive CK where
 | int (k:IntKind)
 | toBytes
 | toStr
 | same
inductive EK where
 | plain
 | bool
 | ptr
 | slice
 | ints (n:Nat)
 | map
 | flat (sh:List Bool)
inductive KK where
 | int
 | str
 | ints (n:Nat)
inductive I where
 | mv (x:Opd)
 | pick (c a b:Opd)
 | alloc (zero:List AV)
 | boxi (x:Opd)
 | build (zero:List AV) (parts:List (Nat × Nat × Opd))
 | mkslice (mu:Bool) (sz len:Nat) (zero:List AV) (parts:List (Nat × Nat × Opd))
 | load (agg:Bool) (n:Nat) (x:Opd)
 | store (n:Nat) (a x:Opd)
 | nilchk (x:Opd)
 | bin (op:BinOp) (e:EK) (x y:Opd)
 | un (op:UnOp) (x:Opd)
 | conv (c:CK) (x:Opd)
 | slc (k:SK) (x:Opd) (lo hi mx:Option Opd)
 | faddr (off:Nat) (x:Opd)
 | field (agg:Bool) (off n:Nat) (x:Opd)
 | iaddr (arr:Option Nat) (sz:Nat) (x i:Opd)
 | idxS (x i:Opd)
 | idxA (agg:Bool) (len sz:Nat) (x i:Opd)
 | extract (x:Opd) (i:Nat)
 | len (k:LK) (x:Opd)
 | append (mu:Bool) (sz bytes:Nat) (zero:List AV) (x y:Opd)
 | maxi (xs:List Opd)
 | mini (xs:List Opd)
 | call (raw:Bool) (f:FuncId) (args:List Opd)
 | callv (f:Opd) (args:List Opd)
 | mkfn (f:Fn) (first cap:List Opd)
 | rangeS (x:Opd)
 | rangeM (x:Opd)
 | nextM (x:Opd)
 | entryM (x:Opd)
 | nextS (x:Opd)
 | isnil (neg:Bool) (x:Opd)
 | mkmap
 | mget (kk:KK) (ok:Bool) (z:AV) (m k:Opd)
 | mset (kk:KK) (m k x:Opd)
 | mdel (kk:KK) (m k:Opd)
 | bad
 | cap (x:Opd)
 | appz (sz bytes:Nat) (zero:List AV) (x n:Opd)
 | nilc
structure Ai where
 dst:Option Nat
 g:Option (Nat × Bool)
 i:I
inductive AC where
 | skip
 | ops (l:List Ai)
 | draw (l:List Ai) (after:List (List Nat)) (lin:List (Nat × List Nat)) (cl:List Nat)
 | seq (a b:AC)
 | cond (c:Opd) (a b:AC)
 | block (id:Nat) (a:AC)
 | loop (lv dd:List Nat) (a:AC)
  | rangeF (g:Opd) (ps:List Nat) (a b:AC)
 | exit (id:Nat)
 | ret
def litS:Value->Option AV
 | .int k n=>some (.d (.int k n))
 | .bool b=>some (.d (.bool b))
 | .string s=>some (.d (.str s.data.toList))
 | .slice none 0 0=>some (.exact [])
 | .pointer none=>some (.d .nilp)
 | .map none=>some (.d .nilmap)
 | .nilFunc=>some (.d .nilfn)
 | _=>none
def litA:Value->Option AV
 | .agg cs=>(cs.toList.mapM litS).map .agg
 | v=>litS v
def opd:Operand->Option Opd
 | .tmp t=>some (.tmp t)
 | .const v=>(litA v).map .lit
 | .func f=>some (.lit (.fn (.func f) [] []))
 | .global _=>none
def sizeOf? (P:Program) (t:TypeId):Option Nat:=(P.info? t).map (·.size)
def zvi (P:Program) (t:TypeId):Option Bool:=
 match P.underlying t with
 | some (.struct _)|some (.array _ _)=>some true
 | some _=>some false
 | none=>none
def zsV (P:Program) (t:TypeId):Option (List AV):=do
 let i ← P.info? t
 let z ← i.zero
 z.cells.toList.mapM litS
def zza (P:Program) (f:FuncId):Bool:=
 match P.funcs[f]? with
 | some fn => fn.name != "runtime.NumGoroutine" && fn.body.isSome
 | none=>false
def intT (P:Program) (t:TypeId):Bool:=
 match P.underlying t with
 | some (.int _)=>true
 | _=>false
def sizeIs (P:Program) (t:TypeId) (n:Nat):Bool:=
 match P.info? t with
 | some i=>i.size==n
 | none=>false
def intsOk (P:Program) (t:TypeId) (fs:Array Field):Bool:=
 !P.stoodInHeld t && !P.eqGuardType P.depth t && sizeIs P t fs.size && fs.toList.zipIdx.all fun f => f.1.name != "_" && f.1.offset == f.2 && intT P f.1.type
def zxN (P:Program) (t:TypeId):Option Nat:=
 match P.underlying t with
 | some (.struct fs)=>if intsOk P t fs=true then some fs.size else none
 | _=>none
def zAn (P:Program):Nat->List Field->Nat->Option (List Bool)
 | _,[],_=>some []
 | 0,_::_,_=>none
 | d+1,f::l,s=>
  if (f.name != "_" && f.offset == s) = true then
   match P.underlying f.type with
   | some (.int _)=>(zAn P d l (s+1)).map (false::·)
   | some .string=>(zAn P d l (s+1)).map (true::·)
   | some (.struct fs)=>
    if P.stoodInHeld f.type=true then none else
    match zAn P d fs.toList 0 with
    | some sh=>if sizeIs P f.type sh.length=true then(zAn P d l (s+sh.length)).map (sh++·)else none
    | none=>none
   | _=>none
  else none
def flatB (P:Program) (t:TypeId):Option (List Bool):=
 match P.underlying t with
 | some (.struct fs)=>if P.stoodInHeld t=true∨P.eqGuardType P.depth t=true then none else zAn P 64 fs.toList 0
 | _=>none
def ekOf (P:Program) (op:BinOp) (t:TypeId):Option EK:=
 match op with
 | .eql|.neq=>
  match P.underlying t with
  | some (.int _)|some .string=>some .plain
  | some .bool=>some .bool
  | some (.pointer _)=>some .ptr
  | some (.slice _)=>some .slice
  | some (.map _ _)=>some .map
  | some (.struct _)=>match zxN P t with
   | some n=>some (.ints n)
   | none=>(flatB P t).map .flat
  | _=>none
 | _=>some .plain
def arrB (P:Program) (t:TypeId):Option Nat:=
 match P.underlying t with
 | some (.array n e)=>match P.underlying e with
  | some (.int _)=>if P.cellsOf e=1 then some n else none
  | _=>none
 | _=>none
def kkOf (P:Program) (t:TypeId):Option KK:=
 match P.underlying t with
 | some (.int _)=>some .int
 | some .string=>some .str
 | some (.struct _)=>(zxN P t).map .ints
 | some (.array _ _)=>(arrB P t).map .ints
 | _=>none
def nilCmp (P:Program) (op:BinOp) (t:TypeId) (y:Operand):Bool:=
 match op,y,P.underlying t with
 | .eql,.const (.slice none 0 0),some (.slice _)=>true
 | .neq,.const (.slice none 0 0),some (.slice _)=>true
 | _,_,_=>false
def zuR:BinOp->Bool
 | .neq=>true
 | _=>false
def zyz {α β:Type} (f:α->Option β):Option α->Option (Option β)
 | none=>some none
 | some x=>(f x).map some
def zcC (P:Program) (o:Oper):Option I:=
 match o.op with
 | .move x|.assign x=>do pure (.mv (← opd x))
 | .pick c a b=>do pure (.pick (← opd c) (← opd a) (← opd b))
 | .alloc t=>do pure (.alloc (← zsV P t))
 | .box _ x=>do pure (.boxi (← opd x))
 | .build t parts=>
  match P.underlying t with
  | some (.struct fs)=>do
   let z ← zsV P t
   let ps ← parts.toList.mapM fun p=>do let f ← fs[p.1]?;let s ← sizeOf? P f.type;pure (f.offset,s,← opd p.2)
   if fs.toList.all (fun f=>(sizeOf? P f.type).isSome)then pure (.build z ps)else none
  | some (.array _ e)=>do
   let z ← zsV P t
   let s ← sizeOf? P e
   let ps ← parts.toList.mapM fun p=>do pure (p.1*s,s,← opd p.2)
   pure (.build z ps)
  | _=>none
 | .buildSlice t len parts=>
  match P.underlying t with
  | some (.slice e)=>do
   let s ← sizeOf? P e
   let z ← zsV P e
   let ps ← parts.toList.mapM fun p=>do pure (p.1*s,s,← opd p.2)
   if len*s<=16777216&&0<s&&z.length==s then pure (.mkslice false s len z ps)else none
  | _=>none
 | .load t x=>do pure (.load (← zvi P t) (← sizeOf? P t) (← opd x))
 | .store t a x=>do pure (.store (← sizeOf? P t) (← opd a) (← opd x))
 | .nilCheck x=>do pure (.nilchk (← opd x))
 | .binOp op t x y _=>if nilCmp P op t y=true then do pure (.isnil (zuR op) (← opd x))else do pure (.bin op (← ekOf P op t) (← opd x) (← opd y))
 | .makeMap t none=>
  match P.underlying t with
  | some (.map _ _)=>some .mkmap
  | _=>none
 | .lookup t m k ok=>
  match P.underlying t with
  | some (.map kt et)=>do
   let kk ← kkOf P kt
   let i ← P.info? et
   let z ← i.zero
   let za ← litA z
   pure (.mget kk ok za (← opd m) (← opd k))
  | _=>none
 | .mapUpdate t m k x|.insert t m k x=>
  match P.underlying t with
  | some (.map kt _)=>do pure (.mset (← kkOf P kt) (← opd m) (← opd k) (← opd x))
  | _=>none
 | .unOp op _ x=>do pure (.un op (← opd x))
 | .convert src dst x=>
  match P.underlying src,P.underlying dst with
  | some (.int _),some (.int k)=>do pure (.conv (.int k) (← opd x))
  | some .string,some (.slice e)=>match P.underlying e with
   | some (.int .u8)=>do pure (.conv .toBytes (← opd x))
   | _=>none
  | some (.slice e),some .string=>match P.underlying e with
   | some (.int .u8)=>do pure (.conv .toStr (← opd x))
   | _=>none
  | some .string,some .string=>do pure (.conv .same (← opd x))
  | _,_=>none
 | .slice t x lo hi mx=>
  match P.underlying t with
  | some .string=>do pure (.slc .str (← opd x) (← zyz opd lo) (← zyz opd hi) (← zyz opd mx))
  | some (.slice e)=>do pure (.slc (.sl (← sizeOf? P e)) (← opd x) (← zyz opd lo) (← zyz opd hi) (← zyz opd mx))
  | some (.array n e)=>do pure (.slc (.arr n (← sizeOf? P e)) (← opd x) (← zyz opd lo) (← zyz opd hi) (← zyz opd mx))
  | _=>none
 | .fieldAddr t x k=>
  match P.underlying t with
  | some (.struct fs)=>do
   let f ← fs[k]?
   let s ← sizeOf? P f.type
   if s=0 then none else pure (.faddr f.offset (← opd x))
  | _=>none
 | .field t x k=>
  match P.underlying t with
  | some (.struct fs)=>do
   let f ← fs[k]?
   pure (.field (← zvi P f.type) f.offset (← sizeOf? P f.type) (← opd x))
  | _=>none
 | .indexAddr t x i=>
  match P.underlying t with
  | some (.array n e)=>do pure (.iaddr (some n) (← sizeOf? P e) (← opd x) (← opd i))
  | some (.slice e)=>do pure (.iaddr none (← sizeOf? P e) (← opd x) (← opd i))
  | _=>none
 | .index t x i=>
  match P.underlying t with
  | some .string=>do pure (.idxS (← opd x) (← opd i))
  | some (.array n e)=>do pure (.idxA (← zvi P e) n (← sizeOf? P e) (← opd x) (← opd i))
  | _=>none
 | .extract x k=>do pure (.extract (← opd x) k)
 | .range t x=>
  match P.underlying t with
  | some .string=>do pure (.rangeS (← opd x))
  | some (.map _ _)=>do pure (.rangeM (← opd x))
  | _=>none
 | .next x true=>do pure (.nextS (← opd x))
 | .next x false=>do pure (.nextM (← opd x))
 | .entry x=>do pure (.entryM (← opd x))
 | .makeFunc f first cap=>do pure (.mkfn f (← first.toList.mapM opd) (← cap.toList.mapM opd))
 | .call c=>
  match c.callee with
  | .value (.func f)=>if zza P f then do pure (.call false f (← c.args.toList.mapM opd))else none
  | .value x=>do pure (.callv (← opd x) (← c.args.toList.mapM opd))
  | .builtin .len=>
   match c.argTypes[0]?,c.args.toList with
   | some t,[x]=>
    match P.underlying t with
    | some .string=>do pure (.len .str (← opd x))
    | some (.slice _)=>do pure (.len .sl (← opd x))
    | some (.array n _)=>do pure (.len (.arr n) (← opd x))
    | some (.map _ _)=>do pure (.len .map (← opd x))
    | some (.pointer e)=>match P.underlying e with
     | some (.array n _)=>do pure (.len (.arr n) (← opd x))
     | _=>none
    | _=>none
   | _,_=>none
  | .builtin .append=>
   match c.argTypes.toList,c.args.toList with
   | [t,u],[x,y]=>
    match P.underlying t,P.underlying u with
    | some (.slice e),some (.slice _)|some (.slice e),some .string=>do
     let s ← sizeOf? P e
     let i ← P.info? e
     let z ← zsV P e
     if 0<s&&z.length==s&&0<i.bytes then pure (.append false s i.bytes z (← opd x) (← opd y))else none
    | some (.slice e),some (.int _)=>do
     let s ← sizeOf? P e
     let i ← P.info? e
     let z ← zsV P e
     if 0<s&&z.length==s&&0<i.bytes then pure (.appz s i.bytes z (← opd x) (← opd y))else none
    | _,_=>none
   | _,_=>none
  | .builtin .delete=>
   match c.argTypes[0]?,c.args.toList with
   | some t,[m,k]=>
    match P.underlying t with
    | some (.map kt _)=>do pure (.mdel (← kkOf P kt) (← opd m) (← opd k))
    | _=>none
   | _,_=>none
  | .builtin .cap=>
   match c.argTypes[0]?,c.args.toList with
   | some t,[x]=>
    match P.underlying t with
    | some (.slice _)=>do pure (.cap (← opd x))
    | _=>none
   | _,_=>none
  | .builtin .max=>do pure (.maxi (← c.args.toList.mapM opd))
  | .builtin .min=>do pure (.mini (← c.args.toList.mapM opd))
  | _=>none
 | .makeInterface _ _=>some .bad
 | .panic _=>some .bad
 | _=>none
def zwP (P:Program) (ops:Array Oper) (o:Oper):Option Ai:=do
 let i ← zcC P o
 match o.guard with
 | none=>pure ⟨o.dst,none,i⟩
 | some (j,want)=>
  let oj ← ops[j]?
  let d ← oj.dst
  pure ⟨o.dst,some (d,want),i⟩
def I.norm:I->I
 | .mkslice _ s n z p=>.mkslice false s n z p
 | .append _ s b z x y=>.append false s b z x y
 | .call _ f xs=>.call false f xs
 | .nilc=>.mv (.lit (.exact []))
 | i=>i
def Ai.norm (x:Ai):Ai:={ x with i:=x.i.norm }
def deps (o:Oper):List Nat:=(o.after.toList.filter (Region.binds .any)).map (·.on)
def znI (P:Program):Code->Option AC
 | .skip=>some .skip
 | .region _ ops false=>do pure (.ops (← ops.toList.mapM (zwP P ops)))
 | .region _ ops true=>do pure (.draw (← ops.toList.mapM (zwP P ops)) (ops.toList.map deps) [] [])
 | .seq a b=>do pure (.seq (← znI P a) (← znI P b))
 | .cond c a b=>do pure (.cond (← opd c) (← znI P a) (← znI P b))
 | .block id a=>do pure (.block id (← znI P a))
 | .loop a=>do pure (.loop [] [] (← znI P a))
 | .rangeFunc g ps a b=>do pure (.rangeF (← opd g) ps.toList (← znI P a) (← znI P b))
 | .exit id=>some (.exit id)
 | .ret=>some .ret
 | _=>none
def AC.norm:AC->AC
 | .ops l=>.ops (l.map Ai.norm)
 | .draw l d _ _=>.draw (l.map Ai.norm) d [] []
 | .seq a b=>.seq a.norm b.norm
 | .cond c a b=>.cond c a.norm b.norm
 | .block id a=>.block id a.norm
 | .loop _ _ a=>.loop [] [] a.norm
 | .rangeF g ps a b=>.rangeF g ps a.norm b.norm
 | c=>c
def BB (b:Bool) (p q:Prop):Prop:=(b=true->p)/\(b=false->q)
def ev (fr:zW):Opd->AV
 | .tmp t=>zhn fr t
 | .lit a=>a
def dm1:AV->AV
 | .own _ es=>.d (.slice es)
 | .exact es=>.d (.slice es)
 | a=>a
def dm:AV->AV
 | .agg cs=>.agg (cs.map dm1)
 | a=>dm1 a
def toD:AV->Option D
 | .d x=>some x
 | .own _ es=>some (.slice es)
 | .exact es=>some (.slice es)
 | _=>none
def zhV:List AV->Option (List D)
 | []=>some []
 | a::l=>match toD a,zhV l with|some x,some r=>some (x::r)|_,_=>none
def zaO:AV->Option (List AV)
 | .agg cs=>some cs
 | .undef|.tup _=>none
 | a=>some [a]
def zaq {α:Type} (cs:List α) (off:Nat) (xs:List α):List α:=cs.take off++xs++cs.drop (off+xs.length)
def zuV (fr:zW):List AV->List (Nat × Nat × Opd)->Option (List AV)
 | cs,[]=>some cs
 | cs,(off,s,x)::r=>
  match zaO (ev fr x)with
  | some xs=>if xs.length=s/\off+s<=cs.length then zuV fr (zaq cs off xs) r else none
  | none=>none
def zaD {α:Type} (s:Nat):Nat->List α->List (List α)
 | 0,_=>[]
 | n+1,l=>l.take s::zaD s n (l.drop s)
def rep {α:Type} (z:List α):Nat->List α
 | 0=>[]
 | n+1=>z++rep z n
def zdP (op:BinOp) (k:IntKind) (a b:Int):Option D:=
 match op with
 | .add=>some (.int k (k.wrap (a+b)))
 | .sub=>some (.int k (k.wrap (a-b)))
 | .mul=>some (.int k (k.wrap (a*b)))
 | .and=>some (.int k (k.wrap (BitVec.ofInt k.bits a &&& BitVec.ofInt k.bits b).toNat))
 | .or=>some (.int k (k.wrap (BitVec.ofInt k.bits a ||| BitVec.ofInt k.bits b).toNat))
 | .xor=>some (.int k (k.wrap (BitVec.ofInt k.bits a ^^^ BitVec.ofInt k.bits b).toNat))
 | .andNot=>some (.int k (k.wrap (BitVec.ofInt k.bits a &&& ~~~BitVec.ofInt k.bits b).toNat))
 | .eql=>some (.bool (a==b))
 | .neq=>some (.bool (a != b))
 | .lss=>some (.bool (decide (a<b)))
 | .leq=>some (.bool (decide (a<=b)))
 | .gtr=>some (.bool (decide (a>b)))
 | .geq=>some (.bool (decide (a≥b)))
 | _=>none
def zdy (op:BinOp) (a b:List UInt8):Option D:=
 match op with
 | .eql=>some (.bool (a==b))
 | .neq=>some (.bool (!(a==b)))
 | .lss=>some (.bool (Op.bytesLess a b))
 | .leq=>some (.bool (Op.bytesLess a b || a==b))
 | .gtr=>some (.bool (!(Op.bytesLess a b || a==b)))
 | .geq=>some (.bool (!Op.bytesLess a b))
 | _=>none
def zce:List AV->List AV->Option Bool
 | [],[]=>some true
 | .d (.int k a)::r,.d (.int k' b)::s=>if k=k' then(zce r s).map ((a==b)&&·)else none
 | _,_=>none
def zcj:List Bool->List AV->List AV->Option Bool
 | [],[],[]=>some true
 | false::sh,.d (.int k a)::r,.d (.int k' b)::s=>if k=k' then(zcj sh r s).map ((a==b)&&·)else none
 | true::sh,.d (.str a)::r,.d (.str b)::s=>(zcj sh r s).map ((a==b)&&·)
 | _,_,_=>none
def zho (op:BinOp) (e:EK) (x y:AV) (K:AV->Prop):Prop:=
 match e,x,y with
 | .plain,.d (.int k a),.d (.int k' b)=>
  match op with
  | .shl=>0<=b/\K (.d (.int k (k.wrap (a*2 ^ (min b.toNat k.bits)))))
  | .shr=>0<=b/\K (.d (.int k (a.fdiv (2 ^ (min b.toNat k.bits)))))
  | .quo=>k=k'∧b≠0/\K (.d (.int k (k.wrap (a.tdiv b))))
  | .rem=>k=k'∧b≠0/\K (.d (.int k (a.tmod b)))
  | _=>k=k'∧match zdP op k a b with|some r=>K (.d r)|none=>False
 | .plain,.d (.str a),.d (.str b)=>
  match op with
  | .add=>a.length+b.length<=9223372036854775807/\K (.d (.str (a++b)))
  | _=>match zdy op a b with|some r=>K (.d r)|none=>False
 | .bool,.d (.bool a),.d (.bool b)=>
  match op with
  | .eql=>K (.d (.bool (a==b)))
  | .neq=>K (.d (.bool (!(a==b))))
  | _=>False
 | .ptr,.box _ _,.d .nilp=>match op with|.eql=>K (.d (.bool false))|.neq=>K (.d (.bool true))|_=>False
 | .ptr,.d .nilp,.box _ _=>match op with|.eql=>K (.d (.bool false))|.neq=>K (.d (.bool true))|_=>False
 | .ptr,.d .nilp,.d .nilp=>match op with|.eql=>K (.d (.bool true))|.neq=>K (.d (.bool false))|_=>False
 | .map,.map _,.d .nilmap=>match op with|.eql=>K (.d (.bool false))|.neq=>K (.d (.bool true))|_=>False
 | .map,.d .nilmap,.d .nilmap=>match op with|.eql=>K (.d (.bool true))|.neq=>K (.d (.bool false))|_=>False
 | .ints n,.agg xs,.agg ys=>
  xs.length=n/\match zce xs ys with
  | some r=>match op with|.eql=>K (.d (.bool r))|.neq=>K (.d (.bool (!r)))|_=>False
  | none=>False
 | .flat sh,.agg xs,.agg ys=>
  match zcj sh xs ys with
  | some r=>match op with|.eql=>K (.d (.bool r))|.neq=>K (.d (.bool (!r)))|_=>False
  | none=>False
 | _,_,_=>False
def unA (op:UnOp) (x:AV) (K:AV->Prop):Prop:=
 match op,x with
 | .not,.d (.bool b)=>K (.d (.bool (!b)))
 | .neg,.d (.int k n)=>K (.d (.int k (k.wrap (0-n))))
 | _,_=>False
def zch (b:UInt8):List D:=[.int .u8 b.toNat]
def zrC:List (List D)->Option (List UInt8)
 | []=>some []
 | [.int .u8 n]::r=>(zrC r).map (UInt8.ofNat n.toNat::·)
 | _=>none
def zgu:AV->Option (List (List D))
 | .d (.slice es)=>some es
 | .own _ es=>some es
 | .exact es=>some es
 | _=>none
def ziP:AV->Option Int
 | .d (.int _ n)=>some n
 | _=>none
def CR (L:Nat->Loc) (σ:List AObj) (w:World) (K:AV->List AObj->Prop):Ending->World->Prop
 | .returned v,w'=>∃L' σ' r,zdx L σ w L' σ' w'∧Sim L' σ' w'∧RV w' L' σ' r v/\K r σ'
 | .panicked _,_=>False
 | .outgrown,_=>False
def RVs (w:World) (L:Nat->Loc) (σ:List AObj) (as0:List AV) (vs:List Value):Prop:=
 vs.length=as0.length/\∀(i:Nat) a v,as0[i]? = some a->vs[i]? = some v->RV w L σ a v
def ACall (P:Program) (f:FuncId) (as0:List AV) (σ:List AObj) (K:AV->List AObj->Prop):Prop:=
 zza P f=true/\∀L w vs,Sim L σ w->RVs w L σ as0 vs->Calls P f vs.toArray w (CR L σ w K)
def YCall (P:Program) (l:Nat) (as0:List AV) (σ:List AObj) (K:AV->List AObj->Prop):Prop:=
 ∀L w vs,Sim L σ w->RVs w L σ as0 vs->∃fn tmps assign body,(Instr.yield l vs.toArray).run P w=.ok (.round l fn tmps assign body) w/\RoundIn Fence.wide 0 P l fn tmps assign body w (CR L σ w K)
def zjT:Int->List AV->Option Int
 | m,[]=>some m
 | m,.d (.int _ n)::r=>zjT (if n>m then n else m) r
 | _,_=>none
def zjS:Int->List AV->Option Int
 | m,[]=>some m
 | m,.d (.int _ n)::r=>zjS (if n<m then n else m) r
 | _,_=>none
def zhY (σ:List AObj) (sz:Nat):AV->Option (List (List D))
 | .d (.slice es)=>some es
 | .own _ es=>some es
 | .exact es=>some es
 | .d (.str s)=>some (s.map zch)
 | .bsl id off len _ s=>if s=sz then match σ[id]? with
  | some (.box cs)=>if off+len*sz<=cs.length then(zhV ((cs.drop off).take (len*sz))).map (zaD sz len)else none
  | _=>none else none
 | _=>none
abbrev KT:=AV->List AObj->Prop
def zxL (c a b:AV) (σ:List AObj) (K:KT):Prop:=
 match c with
 | .d (.bool t)=>BB t (K a σ) (K b σ)
 | _=>False
def zbd (x:AV) (σ:List AObj) (K:KT):Prop:=
 match zaO x with
 | some cs=>K (.box σ.length 0) (σ++[.box cs])
 | none=>False
def zF (o:Option (List AV)) (σ:List AObj) (K:KT):Prop:=
 match o with
 | some cs=>K (.agg cs) σ
 | none=>False
def zp (mu:Bool) (s n:Nat) (o:Option (List AV)) (σ:List AObj) (K:KT):Prop:=
 match o with
 | some cs=>
  if mu then cs.all sc=true/\K (.rsl σ.length 0 s 0 n) (σ++[.row 0 s cs])else
  match zhV cs with
  | some ds=>K (.exact (zaD s n ds)) σ
  | none=>False
 | none=>False
def ze (agg:Bool) (n:Nat) (x:AV) (σ:List AObj) (K:KT):Prop:=
 match x with
 | .box id off=>
  match σ[id]? with
  | some (.box cs)=>
   if agg then off+n<=cs.length/\K (.agg ((cs.drop off).take n)) σ else
   match cs[off]? with
   | some a=>K a σ
   | none=>False
  | _=>False
 | .vp cs=>
  if agg then n<=cs.length/\K (.agg ((cs.take n).map .d)) σ else
  match cs[0]? with
  | some x=>K (.d x) σ
  | none=>False
 | .rpt t g off=>
  match σ[t]? with
  | some (.row g' _ cs)=>
   g'=g/\if agg then off+n<=cs.length/\K (.agg ((cs.drop off).take n)) σ else
   match cs[off]? with
   | some a=>K a σ
   | none=>False
  | _=>False
 | _=>False
def zl (n:Nat) (x y:AV) (σ:List AObj) (K:KT):Prop:=
 match x,zaO y with
 | .box id off,some xs=>
  match σ[id]? with
  | some (.box cs)=>xs.length=n/\off+n<=cs.length/\xs.all sc=true/\K (.tup []) (σ.set id (.box (zaq cs off xs)))
  | _=>False
 | .rpt t g off,some xs=>
  match σ[t]? with
  | some (.row g' s cs)=>g'=g/\xs.length=n/\off+n<=cs.length/\xs.all sc=true/\K (.tup []) (σ.set t (.row g' s (zaq cs off xs)))
  | _=>False
 | _,_=>False
def zbg (x:AV) (σ:List AObj) (K:KT):Prop:=
 match x with
 | .box id off=>K (.box id off) σ
 | .vp cs=>K (.vp cs) σ
 | .rpt t g off=>K (.rpt t g off) σ
 | .fn (.func f) a b=>K (.fn (.func f) a b) σ
 | _=>False
def zaw (c:CK) (x:AV) (σ:List AObj) (K:KT):Prop:=
 match c with
 | .int k=>
  match x with
  | .d (.int _ n)=>K (.d (.int k (k.wrap n))) σ
  | _=>False
 | .toBytes=>
  match x with
  | .d (.str s)=>K (.d (.slice (s.map zch))) σ
  | _=>False
 | .toStr=>
  match zgu x with
  | some es=>match zrC es with
   | some s=>K (.d (.str s)) σ
   | none=>False
  | none=>False
 | .same=>
  match x with
  | .d (.str s)=>K (.d (.str s)) σ
  | _=>False
def bnd (o:Option AV) (dflt:Nat):Option Int:=
 match o with
 | none=>some dflt
 | some x=>ziP x
def zgy (k:SK) (x:AV) (lo hi mx:Option AV) (σ:List AObj) (K:KT):Prop:=
 match k with
 | .str=>
  match x with
  | .d (.str s)=>match bnd lo 0,bnd hi s.length,mx with
   | some l,some h,none=>0<=l/\l<=h/\h<=s.length/\K (.d (.str ((s.take h.toNat).drop l.toNat))) σ
   | _,_,_=>False
  | _=>False
 | .sl sz=>
  match zgu x with
  | some es=>match bnd lo 0,bnd hi es.length with
   | some l,some h=>
    match mx with
    | none=>match x with
     | .exact []=>0<=l/\l<=h/\h<=0/\K (.exact []) σ
     | _=>0<=l/\l<=h/\h<=es.length/\(∀e∈es,e.length=sz)/\K (.d (.slice ((es.take h.toNat).drop l.toNat))) σ
    | some m=>hi.isSome=true/\ziP m=some h/\0<=l/\l<=h/\h<=es.length/\(∀e∈es,e.length=sz)/\K (.exact ((es.take h.toNat).drop l.toNat)) σ
   | _,_=>False
  | none=>
   match x with
   | .bsl id off len cap s=>match bnd lo 0,bnd hi len,mx with
    | some l,some h,none=>s=sz/\0<=l/\l<=h/\h<=cap/\l<cap/\K (.bsl id (off+l.toNat*sz) (h.toNat-l.toNat) (cap-l.toNat) sz) σ
    | _,_,_=>False
   | .rsl t g s lo0 hi0=>match bnd lo 0,bnd hi (hi0-lo0),mx with
    | some l,some h,none=>s=sz/\0<=l/\l<=h/\h<=((hi0-lo0:Nat):Int)/\K (.rsl t g s (lo0+l.toNat) (lo0+h.toNat)) σ
    | _,_,_=>False
   | _=>False
 | .arr n sz=>
  match x with
  | .box id off=>match bnd lo 0,bnd hi n,mx with
   | some l,some h,none=>0<=l/\l<=h/\h<=n/\l<n/\K (.bsl id (off+l.toNat*sz) (h.toNat-l.toNat) (n-l.toNat) sz) σ
   | _,_,_=>False
  | _=>False
def zc (off:Nat) (x:AV) (σ:List AObj) (K:KT):Prop:=
 match x with
 | .box id o=>K (.box id (o+off)) σ
 | .vp cs=>K (.vp (cs.drop off)) σ
 | .rpt t g o=>K (.rpt t g (o+off)) σ
 | _=>False
def zaV (agg:Bool) (off n:Nat) (x:AV) (σ:List AObj) (K:KT):Prop:=
 match x with
 | .agg cs=>
  if agg then off+n<=cs.length/\K (.agg ((cs.drop off).take n)) σ else
  match cs[off]? with
  | some a=>K a σ
  | none=>False
 | _=>False
def zN (arr:Option Nat) (sz:Nat) (x i:AV) (σ:List AObj) (K:KT):Prop:=
 match arr with
 | none=>
  match ziP i with
  | some k=>
   match zgu x with
   | some es=>match es[k.toNat]? with
    | some e=>0<=k/\e.length=sz/\K (.vp e) σ
    | none=>False
   | none=>
    match x with
    | .bsl id off len _ s=>s=sz/\0<=k/\k<len/\K (.box id (off+k.toNat*sz)) σ
    | .rsl t g s lo hi=>s=sz/\0<=k/\k<((hi-lo:Nat):Int)/\K (.rpt t g ((lo+k.toNat)*sz)) σ
    | _=>False
  | none=>False
 | some n=>
  match ziP i,x with
  | some k,.box id off=>0<=k/\k<n/\K (.box id (off+k.toNat*sz)) σ
  | _,_=>False
def zbS (x i:AV) (σ:List AObj) (K:KT):Prop:=
 match x,ziP i with
 | .d (.str s),some k=>match s[k.toNat]? with
  | some b=>0<=k/\K (.d (.int .u8 b.toNat)) σ
  | none=>False
 | _,_=>False
def zcl (agg:Bool) (n sz:Nat) (x i:AV) (σ:List AObj) (K:KT):Prop:=
 match x,ziP i with
 | .agg cs,some k=>
  0<=k/\k<n ∧
  if agg then k.toNat*sz+sz<=cs.length/\K (.agg ((cs.drop (k.toNat*sz)).take sz)) σ else
  match cs[k.toNat*sz]? with
  | some a=>K a σ
  | none=>False
 | _,_=>False
def zf (x:AV) (k:Nat) (σ:List AObj) (K:KT):Prop:=
 match x with
 | .tup vs=>match vs[k]? with
  | some a=>K a σ
  | none=>False
 | _=>False
def zah (k:LK) (x:AV) (σ:List AObj) (K:KT):Prop:=
 match k with
 | .str=>
  match x with
  | .d (.str s)=>K (.d (.int .i64 s.length)) σ
  | _=>False
 | .sl=>
  match zgu x with
  | some es=>K (.d (.int .i64 es.length)) σ
  | none=>match x with
   | .bsl _ _ len _ _=>K (.d (.int .i64 len)) σ
   | .rsl _ _ _ lo hi=>K (.d (.int .i64 ((hi-lo:Nat):Int))) σ
   | _=>False
 | .arr n=>K (.d (.int .i64 n)) σ
 | .map=>match x with
  | .map id=>match σ[id]? with
   | some (.map es)=>K (.d (.int .i64 es.length)) σ
   | _=>False
  | .d .nilmap=>K (.d (.int .i64 0)) σ
  | _=>False
def zM (sz bytes:Nat) (x y:AV) (σ:List AObj) (K:KT):Prop:=
 match zhY σ sz y with
 | some ys=>
  (∀e∈ys,e.length=sz) ∧
  match x with
  | .exact es=>(∀e∈es,e.length=sz)/\(es.length+ys.length)*bytes<=140737488355328/\K (.own σ.length (es++ys)) (σ++[.tok sz (es.length+ys.length)])
  | .own t es=>(es.length+ys.length)*bytes<=140737488355328∧σ[t]? = some (.tok sz es.length)/\K (.own t (es++ys)) (σ.set t (.tok sz (es.length+ys.length)))
  | _=>False
 | none=>False
def zuU (sz bytes:Nat) (x:AV) (m:Nat) (ys:List AV) (σ:List AObj) (K:KT):Prop:=
 match x with
 | .exact []=>m*bytes<=140737488355328/\K (.rsl σ.length 0 sz 0 m) (σ++[.row 0 sz ys])
 | .rsl t g s lo hi=>match σ[t]? with
  | some (.row g' s' cs)=>g'=g/\s'=sz/\s=sz/\cs.length=hi*sz/\(hi-lo+m)*bytes<=140737488355328/\K (.rsl t (g+1) sz 0 (hi-lo+m)) (σ.set t (.row (g+1) sz (cs.drop (lo*sz)++ys)))
  | _=>False
 | _=>False
def zhP (sz bytes:Nat) (x y:AV) (σ:List AObj) (K:KT):Prop:=
 match y with
 | .rsl t g s lo hi=>match σ[t]? with
  | some (.row g' s' cs)=>g'=g/\s'=sz/\s=sz/\zuU sz bytes x (hi-lo) ((cs.drop (lo*sz)).take ((hi-lo)*sz)) σ K
  | _=>False
 | _=>match zhY σ sz y with
  | some ys=>(∀e∈ys,e.length=sz)/\zuU sz bytes x ys.length (ys.flatten.map .d) σ K
  | none=>False
def capC (x:AV) (σ:List AObj) (K:KT):Prop:=
 match x with
 | .exact es=>K (.d (.int .i64 es.length)) σ
 | _=>False
def appzC (sz bytes:Nat) (z:List AV) (x n:AV) (σ:List AObj) (K:KT):Prop:=
 match n with
 | .d (.int .i64 k)=>0<=k/\zuU sz bytes x k.toNat (rep z k.toNat) σ K
 | _=>False
def zgF (xs:List AV) (σ:List AObj) (K:KT):Prop:=
 match xs with
 | .d (.int k n)::r=>match zjT n r with
  | some m=>K (.d (.int k m)) σ
  | none=>False
 | _=>False
def zhG (xs:List AV) (σ:List AObj) (K:KT):Prop:=
 match xs with
 | .d (.int k n)::r=>match zjS n r with
  | some m=>K (.d (.int k m)) σ
  | none=>False
 | _=>False
def zbc (P:Program) (g:AV) (args:List AV) (σ:List AObj) (K:KT):Prop:=
 match g with
 | .fn (.func f) first cap=>ACall P f (first++args++cap) σ K
 | .fn (.yield l) [] []=>YCall P l args σ K
 | _=>False
def zbb (x:AV) (σ:List AObj) (K:KT):Prop:=
 match x with
 | .d (.str s)=>K (.iter σ.length) (σ++[.iter s 0])
 | _=>False
def zlV (x:AV) (σ:List AObj) (K:KT):Prop:=
 match x with
 | .map id=>match σ[id]? with
  | some (.map es)=>∀(c:Nat) (bs:List Nat),bs.length=es.length->bs.Nodup->K (.iter σ.length) (σ.set id (.mapr c bs es)++[.mit (some id) c []])
  | _=>False
 | .d .nilmap=>K (.iter σ.length) (σ++[.mit none 0 []])
 | _=>False
def zqr (x:AV) (σ:List AObj) (K:KT):Prop:=
 match x with
 | .iter id=>match σ[id]? with
  | some (.mit none _ _)=>K (.tup [.d (.bool false)]) σ
  | some (.mit (some m) c seen)=>match σ[m]? with
   | some (.mapr c' bs es)=>c'=c/\((∀b∈bs,b∈seen)->K (.tup [.d (.bool false)]) (σ.set m (.map es))) ∧
     ∀(i b:Nat) (e:AV × AV),bs[i]? = some b->es[i]? = some e->b∉seen->K (.tup [.d (.bool true),e.1,e.2]) (σ.set id (.mit (some m) c (seen++[b])))
   | _=>False
  | _=>False
 | _=>False
def znn (x:AV) (σ:List AObj) (K:KT):Prop:=
 match x with
 | .iter id=>match σ[id]? with
  | some (.mit (some m) c seen)=>match σ[m]? with
   | some (.mapr c' bs es)=>c'=c/\∃(i b:Nat) (e:AV × AV),seen.getLast? = some b/\bs[i]? = some b/\es[i]? = some e/\K (.tup [e.1,e.2]) σ
   | _=>False
  | _=>False
 | _=>False
def zrZ (x:AV) (σ:List AObj) (K:KT):Prop:=
 match x with
 | .iter id=>match σ[id]? with
  | some (.iter s pos)=>
   if pos<s.length then K (.tup [.d (.bool true),.d (.int .i64 pos),.d (.int .i32 (Utf8.decode ⟨s.toArray⟩ pos).1)]) (σ.set id (.iter s (pos+(Utf8.decode ⟨s.toArray⟩ pos).2)))
   else K (.tup [.d (.bool false)]) σ
  | _=>False
 | _=>False
def zaB (neg:Bool) (x:AV) (σ:List AObj) (K:KT):Prop:=
 match zgu x with
 | some []=>K (.d (.bool true)) σ/\K (.d (.bool false)) σ
 | some (_::_)=>K (.d (.bool neg)) σ
 | none=>match x with
  | .bsl _ _ _ _ _=>K (.d (.bool neg)) σ
  | .nils=>K (.d (.bool !neg)) σ
  | .rsl _ _ _ lo hi=>(hi-lo=0->K (.d (.bool true)) σ/\K (.d (.bool false)) σ)/\(0<hi-lo->K (.d (.bool neg)) σ)
  | _=>False
def ziu:KK->AV->AV->Option Bool
 | .int,.d (.int k a),.d (.int k' b)=>if k=k' then some (a==b)else none
 | .str,.d (.str a),.d (.str b)=>some (a==b)
 | .ints n,.agg xs,.agg ys=>if xs.length=n then zce xs ys else none
 | _,_,_=>none
def zoD (kk:KK) (k:AV):List (AV × AV)->Nat->Option (Option (Nat × AV))
 | [],_=>some none
 | e::es,i=>match ziu kk k e.1 with
  | some true=>some (some (i,e.2))
  | some false=>zoD kk k es (i+1)
  | none=>none
def zgg:KK->AV->Bool
 | .int,.d (.int _ _)=>true
 | .str,.d (.str _)=>true
 | .ints n,.agg xs=>xs.length==n&&(zce xs xs).isSome
 | _,_=>false
def zfg (m:AV) (σ:List AObj):Option (List (AV × AV)):=
 match m with
 | .map id=>match σ[id]? with
  | some (.map es)=>some es
  | _=>none
 | .d .nilmap=>some []
 | _=>none
def mgetR (ok:Bool) (v:AV) (is:Bool):AV:=
 match ok with
 | true=>.tup [v,.d (.bool is)]
 | false=>v
def zcf (kk:KK) (ok:Bool) (z m k:AV) (σ:List AObj) (K:KT):Prop:=
 match zfg m σ with
 | some es=>zgg kk k=true/\match zoD kk k es 0 with
  | some (some (_,v))=>K (mgetR ok v true) σ
  | some none=>K (mgetR ok z false) σ
  | none=>False
 | none=>False
def zcz (kk:KK) (m k x:AV) (σ:List AObj) (K:KT):Prop:=
 match m with
 | .map id=>match σ[id]? with
  | some (.map es)=>zgg kk k=true/\match zoD kk k es 0 with
   | some (some (i,_))=>K (.tup []) (σ.set id (.map (es.set i (k,x))))
   | some none=>K (.tup []) (σ.set id (.map (es++[(k,x)])))
   | none=>False
  | _=>False
 | _=>False
def zdj (kk:KK) (m k:AV) (σ:List AObj) (K:KT):Prop:=
 match m with
 | .map id=>match σ[id]? with
  | some (.map es)=>zgg kk k=true/\match zoD kk k es 0 with
   | some (some (i,_))=>K (.tup []) (σ.set id (.map (es.eraseIdx i)))
   | some none=>K (.tup []) σ
   | none=>False
  | some (.mapr c bs es)=>zgg kk k=true/\match zoD kk k es 0 with
   | some (some (i,_))=>K (.tup []) (σ.set id (.mapr c (bs.eraseIdx i) (es.eraseIdx i)))
   | some none=>K (.tup []) σ
   | none=>False
  | _=>False
 | .d .nilmap=>zgg kk k=true/\K (.tup []) σ
 | _=>False
def zaQ (P:Program) (i:I) (fr:zW) (σ:List AObj) (K:KT):Prop:=
 match i with
 | .mv x=>K (ev fr x) σ
 | .nilc=>K .nils σ
 | .pick c a b=>zxL (ev fr c) (ev fr a) (ev fr b) σ K
 | .alloc z=>K (.box σ.length 0) (σ++[.box z])
 | .boxi x=>zbd (ev fr x) σ K
 | .build z ps=>zF (zuV fr z ps) σ K
 | .mkslice mu s n z ps=>zp mu s n (zuV fr (rep z n) ps) σ K
 | .load agg n x=>ze agg n (ev fr x) σ K
 | .store n x y=>zl n (ev fr x) (ev fr y) σ K
 | .nilchk x=>zbg (ev fr x) σ K
 | .bin op e x y=>zho op e (ev fr x) (ev fr y) (fun a=>K a σ)
 | .un op x=>unA op (ev fr x) (fun a=>K a σ)
 | .conv c x=>zaw c (ev fr x) σ K
 | .slc k x lo hi mx=>zgy k (ev fr x) (lo.map (ev fr)) (hi.map (ev fr)) (mx.map (ev fr)) σ K
 | .faddr off x=>zc off (ev fr x) σ K
 | .field agg off n x=>zaV agg off n (ev fr x) σ K
 | .iaddr arr sz x i=>zN arr sz (ev fr x) (ev fr i) σ K
 | .idxS x i=>zbS (ev fr x) (ev fr i) σ K
 | .idxA agg n sz x i=>zcl agg n sz (ev fr x) (ev fr i) σ K
 | .extract x k=>zf (ev fr x) k σ K
 | .len k x=>zah k (ev fr x) σ K
 | .append mu sz bytes _ x y=>match mu with
  | false=>zM sz bytes (ev fr x) (ev fr y) σ K
  | true=>zhP sz bytes (ev fr x) (ev fr y) σ K
 | .maxi xs=>zgF (xs.map (ev fr)) σ K
 | .mini xs=>zhG (xs.map (ev fr)) σ K
 | .call raw f args=>match raw with
  | false=>ACall P f (args.map fun x=>dm (ev fr x)) σ K
  | true=>ACall P f (args.map (ev fr)) σ K
 | .callv g args=>zbc P (ev fr g) (args.map fun x=>dm (ev fr x)) σ K
 | .mkfn f first cap=>K (.fn f (first.map (ev fr)) (cap.map (ev fr))) σ
 | .rangeS x=>zbb (ev fr x) σ K
 | .rangeM x=>zlV (ev fr x) σ K
 | .nextM x=>zqr (ev fr x) σ K
 | .entryM x=>znn (ev fr x) σ K
 | .nextS x=>zrZ (ev fr x) σ K
 | .isnil neg x=>zaB neg (ev fr x) σ K
 | .mkmap=>K (.map σ.length) (σ++[.map []])
 | .mget kk ok z m k=>zcf kk ok z (ev fr m) (ev fr k) σ K
 | .mset kk m k x=>zcz kk (ev fr m) (ev fr k) (ev fr x) σ K
 | .mdel kk m k=>zdj kk (ev fr m) (ev fr k) σ K
 | .bad=>False
 | .cap x=>capC (ev fr x) σ K
 | .appz sz bytes z x n=>appzC sz bytes z (ev fr x) (ev fr n) σ K
def aput (fr:zW) (dst:Option Nat) (a:AV):zW:=
 match dst with
 | some d=>(d,a)::fr
 | none=>fr
def ziQ (g:AV) (want:Bool) (body:KT->Prop) (σ:List AObj) (K:KT):Prop:=
 match g with
 | .d (.bool b)=>BB (b==want) (body K) (K (.tup []) σ)
 | .tup []=>K (.tup []) σ
 | _=>False
def aop (P:Program) (x:Ai) (fr:zW) (σ:List AObj) (K:zW->List AObj->Prop):Prop:=
 match x.g with
 | none=>zaQ P x.i fr σ fun a σ'=>K (aput fr x.dst a) σ'
 | some (s,want)=>ziQ (zhn fr s) want (zaQ P x.i fr σ) σ fun a σ'=>K (aput fr x.dst a) σ'
def aops (P:Program):List Ai->zW->List AObj->(zW->List AObj->Prop)->Prop
 | [],fr,σ,K=>K fr σ
 | x::l,fr,σ,K=>aop P x fr σ fun fr' σ'=>aops P l fr' σ' K
def zib (after:List (List Nat)) (listed:List Bool):List Nat:=
 (List.range after.length).filter fun i=>!listed.getD i true&&(after.getD i []).all fun j=>listed.getD j false
def aany (P:Program) (l:List Ai) (after:List (List Nat)) (K:zW->List AObj->Prop):Nat->List Bool->zW->List AObj->Prop
 | 0,listed,fr,σ=>zib after listed=[]/\K fr σ
 | n+1,listed,fr,σ=>(zib after listed=[]->K fr σ) ∧
  ∀i∈zib after listed,match l[i]? with
   | some x=>aop P x fr σ (aany P l after K n (listed.set i true))
   | none=>False
def setS:zW->List Nat->List AV->zW
 | fr,[],_=>fr
 | fr,i::l,vs=>setS ((i,vs.getD 0 .undef)::fr) l (vs.drop 1)
def kill:zW->List Nat->zW
 | fr,[]=>fr
 | fr,i::l=>kill ((i,.undef)::fr) l
inductive zqk:List AV->List AObj->List AV->List AObj->Prop
 | refl (vs σ):zqk vs σ vs σ
 | tok {vs σ vs' σ'} (i:Nat) (es:List (List D)) (sz:Nat):vs[i]? = some (.exact es)->(∀e∈es,e.length=sz)->zqk (vs.set i (.own σ.length es)) (σ++[.tok sz es.length]) vs' σ'→zqk vs σ vs' σ'
 | row {vs σ vs' σ'} (i:Nat) (sz:Nat):vs[i]? = some (.exact [])→0<sz->zqk (vs.set i (.rsl σ.length 0 sz 0 0)) (σ++[.row 0 sz []]) vs' σ'→zqk vs σ vs' σ'
 | tokB {vs σ vs' σ'} (id j:Nat) (cs:List AV) (es:List (List D)) (sz:Nat):σ[id]? = some (.box cs)->cs[j]? = some (.exact es)->(∀e∈es,e.length=sz)->zqk vs (σ.set id (.box (cs.set j (.own σ.length es)))++[.tok sz es.length]) vs' σ'→zqk vs σ vs' σ'
 | rowB {vs σ vs' σ'} (id j:Nat) (cs:List AV) (sz:Nat):σ[id]? = some (.box cs)->cs[j]? = some (.exact [])→0<sz->zqk vs (σ.set id (.box (cs.set j (.rsl σ.length 0 sz 0 0)))++[.row 0 sz []]) vs' σ'→zqk vs σ vs' σ'
 | cut {vs σ vs' σ'} (i t g sz lo hi:Nat) (cs:List AV):vs[i]? = some (.rsl t g sz lo hi)→σ[t]? = some (.row g sz cs)->zqk (vs.set i (.rsl t (g+1) sz 0 (hi-lo))) (σ.set t (.row (g+1) sz ((cs.drop (lo*sz)).take ((hi-lo)*sz)))) vs' σ'→zqk vs σ vs' σ'
 | data {vs σ vs' σ'} (i:Nat) (c:AV) (es:List (List D)):vs[i]? = some c->zgu c=some es->zqk (vs.set i (.d (.slice es))) σ vs' σ'→zqk vs σ vs' σ'
 | dataB {vs σ vs' σ'} (id j:Nat) (cs:List AV) (c:AV) (es:List (List D)):σ[id]? = some (.box cs)->cs[j]? = some c->zgu c=some es->zqk vs (σ.set id (.box (cs.set j (.d (.slice es))))) vs' σ'→zqk vs σ vs' σ'
 | dataR {vs σ vs' σ'} (t j g sz:Nat) (cs:List AV) (c:AV) (es:List (List D)):σ[t]? = some (.row g sz cs)->cs[j]? = some c->zgu c=some es->zqk vs (σ.set t (.row g sz (cs.set j (.d (.slice es))))) vs' σ'→zqk vs σ vs' σ'
def zaZ (init:List AV) (σ:List AObj) (round:List AV->List AObj->(List AV->List AObj->Prop)->Prop):Prop:=
 ∃(I:Nat->List AV->List AObj->Prop) (n₀:Nat),(∃vs s,zqk init σ vs s/\I n₀ vs s)/\∀n vs σ',I n vs σ'→round vs σ' fun vs' s=>∃n',n'<n/\I n' vs' s
def rangeFC (P:Program) (g:AV) (np:Nat) (σ:List AObj) (round:List AV->List AObj->Nat->AObj->AObj->(List AObj->Prop)->Prop) (done:List AObj->Prop):Prop:=
 match g with
 | .fn (.func f) [] cap=>∀(l:Nat) (r:Loop) (vs:List AV),
  ∃(ι:Type) (J:ι->List AObj->Prop) (i0:ι) (Nx:ι->List AV→ι->Prop) (Fin:ι->Prop),(∀i x i',Nx i x i'→x.length=np)/\J i0 (σ++[.dead,.lrec l r vs])/\(∀i s,J i s->s[σ.length+1]? = some (.lrec l r vs)) ∧
   ((∀i x i' s,Nx i x i'→J i s->YCall P l x s fun v s'=>v=.d (.bool true)/\J i' s')->ACall P f (.fn (.yield l) [] []::cap) (σ++[.dead,.lrec l r vs]) fun _ s=>∃i,Fin i/\J i s) ∧
   (∀i x i' s,Nx i x i'→J i s->round x s (σ.length+1) (.lrec l r vs) (.lrec l { r with state:=.busy } vs) fun s=>J i' s) ∧
   ∀i s,Fin i->J i s->done (s.set (σ.length+1) (.lrec l { r with state:=.exhausted } vs))
 | _=>False
def putF:zW->List Nat->List AV->zW
 | fr,p::ps,xs=>putF ((p,xs.getD 0 .undef)::fr) ps (xs.drop 1)
 | fr,[],_=>fr
def zh (c:AV) (p q:Prop):Prop:=
 match c with
 | .d (.bool t)=>BB t p q
 | _=>False
theorem ztr {w:World}{L:Nat->Loc}{σ:List AObj}{v:Value}{a:AV}(h:litS v=some a):RV w L σ a v:=by
 unfold litS at h;split at h<;>cases h
 ·exact .d _ _ (.int _ _)
 ·exact .d _ _ (.bool _)
 ·rename_i s;have e:s=⟨s.data.toList.toArray⟩:=by cases s;rfl
  rw[e];exact .d _ _ (.str _)
 ·exact .exact [] none (.empty none 0 (fun _=>rfl))
 ·exact .d _ _ .nilp
 ·exact .d _ _ .nilmap
 ·exact .d _ _ .nilfn
theorem mapM_some {α β:Type}{f:α->Option β}:∀ {l:List α} {r:List β},l.mapM f=some r->r.length=l.length/\∀(i:Nat) a b,l[i]? = some a->r[i]? = some b->f a=some b
 | [],r,h=>by simp at h;subst h;simp
 | a::l,r,h=>by
  simp only[List.mapM_cons,Option.bind_eq_bind,Option.bind_eq_some_iff,Option.pure_def,Option.some.injEq]at h;obtain⟨b,hb,r',hr,rfl⟩:=h;obtain⟨h1,h2⟩:=mapM_some hr;refine⟨by simp[h1],fun i x y hx hy=>?_⟩;cases i with
  | zero=>simp at hx hy;subst hx hy;exact hb
  | succ i=>simp at hx hy;exact h2 i x y hx hy
theorem zyK {w:World}{L:Nat->Loc}{σ:List AObj}{v:Value}{a:AV}(h:litA v=some a):RV w L σ a v:=by
 unfold litA at h;split at h
 ·rename_i cs;simp only[Option.map_eq_some_iff]at h;obtain⟨l,hl,rfl⟩:=h;obtain⟨h1,h2⟩:=mapM_some hl;have:=RV.agg (w:=w) (L:=L) (σ:=σ) l cs.toList h1.symm (fun i c v hc hv=>ztr (h2 i v c hv hc));simpa using this
 ·exact ztr h
theorem zU {w:World}{L:Nat->Loc}{σ:List AObj}{fr:zW}{a:Act}(F:FR w L σ fr a.tmps){o:Operand}{x:Opd}(h:opd o=some x):RV w L σ (ev fr x) (a.eval o):=by
 cases o with
 | tmp t=>
  simp[opd]at h;subst h
  simp only[ev,Act.eval]
  exact F.at' t
 | const v=>
  simp only[opd,Option.map_eq_some_iff]at h
  obtain⟨b,hb,rfl⟩:=h
  exact zyK hb
 | global g=>simp[opd]at h
 | func f=>
  simp[opd]at h;subst h
  exact .fn _ [] [] [] [] rfl rfl (by simp) (by simp)
theorem zmy {w:World}{L:Nat->Loc}{σ:List AObj}{fr:zW}{a:Act}(F:FR w L σ fr a.tmps){os:List Operand}{xs:List Opd}(h:os.mapM opd=some xs) :
  RVs w L σ (xs.map (ev fr)) (os.map a.eval):=by
 obtain⟨h1,h2⟩:=mapM_some h;refine⟨by simp[h1],fun i b v hb hv=>?_⟩;simp only[List.getElem?_map,Option.map_eq_some_iff]at hb hv;obtain⟨x,hx,rfl⟩:=hb;obtain⟨o,ho,rfl⟩:=hv;exact zU F (h2 i o x ho hx)
section inv
variable {w:World} {L:Nat->Loc} {σ:List AObj} {v:Value}
theorem RV.int_inv {k:IntKind}{n:Int}(h:RV w L σ (.d (.int k n)) v):v=.int k n:=by cases h with|d _ _ h=>cases h;rfl
theorem RV.bool_inv {b:Bool}(h:RV w L σ (.d (.bool b)) v):v=.bool b:=by cases h with|d _ _ h=>cases h;rfl
theorem RV.str_inv {s:List UInt8}(h:RV w L σ (.d (.str s)) v):v=.string ⟨s.toArray⟩:=by cases h with|d _ _ h=>cases h;rfl
theorem RV.nilp_inv (h:RV w L σ (.d .nilp) v):v=.pointer none:=by cases h with|d _ _ h=>cases h;rfl
theorem RV.box_inv {id off:Nat}(h:RV w L σ (.box id off) v):v=.pointer (some ⟨(L id).a.block,(L id).a.off+off,none⟩)/\zql σ id:=by cases h with|box _ _ h=>exact⟨rfl,h⟩
theorem RV.agg_inv {cs:List AV}(h:RV w L σ (.agg cs) v):∃vs:List Value,v=.agg vs.toArray/\RVs w L σ cs vs:=by cases h with|agg _ vs h1 h2=>exact⟨vs,rfl,h1,h2⟩
theorem RV.tup_inv {cs:List AV}(h:RV w L σ (.tup cs) v):∃vs:List Value,v=.tuple vs.toArray/\RVs w L σ cs vs:=by cases h with|tup _ vs h1 h2=>exact⟨vs,rfl,h1,h2⟩
theorem RV.vp_inv {cs:List D}(h:RV w L σ (.vp cs) v):∃b off,v=.pointer (some ⟨b,off,none⟩)/\∀(j:Nat) d,cs[j]? = some d->∃v,w.cell? ⟨b,off+j,none⟩=some v/\¬Own L σ b (off+j)/\RD w (Own L σ) d v:=by cases h with|vp _ b off h=>exact⟨b,off,rfl,h⟩
theorem RV.fn_inv {f:Fn}{first cap:List AV}(h:RV w L σ (.fn f first cap) v):∃fs cs:List Value,v=.func f fs.toArray cs.toArray/\RVs w L σ first fs/\RVs w L σ cap cs:=by cases h with|fn _ _ _ fs cs h1 h2 h3 h4=>exact⟨fs,cs,rfl,⟨h1,h3⟩,⟨h2,h4⟩⟩
theorem RV.map_inv {id:Nat}(h:RV w L σ (.map id) v):v=.map (some (L id).a.block)/\zql σ id:=by cases h with|map _ h=>exact⟨rfl,h⟩
theorem RV.nilmap_inv (h:RV w L σ (.d .nilmap) v):v=.map none:=by cases h with|d _ _ h=>cases h;rfl
theorem RV.iter_inv {id:Nat}(h:RV w L σ (.iter id) v):v=.pointer (some ⟨(L id).a.block,0,none⟩)/\zql σ id:=by cases h with|iter _ h=>exact⟨rfl,h⟩
theorem RV.bsl_inv {id off len cap sz:Nat}(h:RV w L σ (.bsl id off len cap sz) v):v=.slice (some ⟨(L id).a.block,(L id).a.off+off,none⟩) len cap/\zql σ id/\len<=cap:=by cases h with|bsl _ _ _ _ _ h1 h2=>exact⟨rfl,h1,h2⟩
theorem RV.rsl_inv {t g sz lo hi:Nat}(h:RV w L σ (.rsl t g sz lo hi) v):∃a c,v=.slice a (hi-lo) c/\zyj σ t/\lo<=hi/\hi-lo<=c/\(a=none->c=0)/\(0<c->∃b o,a=some ⟨b,o,none⟩) ∧
  (∀g' sz' cs,σ[t]? = some (.row g' sz' cs)->g<=g')/\(∀sz' cs,σ[t]? = some (.row g sz' cs)->sz'=sz/\hi*sz<=cs.length/\hi<=(L t).cap/\c=(L t).cap-lo/\(lo<(L t).cap->a=some ⟨(L t).a.block,(L t).a.off+lo*sz,none⟩)):=by
 cases h with|rsl _ _ _ _ _ a c h1 h2 h3 h4 h5 h6 h7=>exact⟨a,c,rfl,h1,h3,h4,h5,h6,h2,h7⟩
theorem nils_inv (h:RV w L σ .nils v):v=.slice none 0 0:=by cases h;rfl
theorem RV.rpt_inv {t g off:Nat}(h:RV w L σ (.rpt t g off) v):∃b o,v=.pointer (some ⟨b,o,none⟩)/\zyj σ t/\(∀g' sz' cs,σ[t]? = some (.row g' sz' cs)->g<=g')/\(∀sz' cs,σ[t]? = some (.row g sz' cs)->b=(L t).a.block/\o=(L t).a.off+off):=by
 cases h with|rpt _ _ _ b o h1 h2 h3=>exact⟨b,o,rfl,h1,h2,h3⟩
theorem RV.nil_tup (h:RV w L σ (.tup []) v):v=.tuple #[]:=by
 obtain⟨vs,rfl,h1,_⟩:=h.tup_inv;have:vs=[]:=by simpa using h1
 subst this;rfl
theorem RV.esOf_inv {a:AV}{es:List (List D)}(h:RV w L σ a v)(he:zgu a=some es):RD w (Own L σ) (.slice es) v:=by
 unfold zgu at he;split at he<;>cases he
 ·cases h with|d _ _ h=>exact h
 ·cases h with|own _ _ _ _ _ _ _ _ h _=>exact h
 ·cases h with|exact _ _ h=>exact h
theorem RV.intV_inv {a:AV}{n:Int}(h:RV w L σ a v)(he:ziP a=some n):∃k,v=.int k n:=by
 unfold ziP at he;split at he
 ·cases he;exact⟨_,h.int_inv⟩
 ·cases he
theorem RD.len {es:List (List D)}{O:Nat->Nat->Prop}(h:RD w O (.slice es) v):∃a cap,v=.slice a es.length cap/\es.length<=cap/\(a=none->cap=0):=by
 cases h with
 | empty a cap h=>exact⟨a,cap,rfl,Nat.zero_le _,h⟩
 | slice es b off cap sz vs h0 h1 h2 h3 h4=>exact⟨_,cap,rfl,h1,fun e=>by cases e⟩
end inv
section
variable {P:Program} {o:Oper} {i:I} {fr:zW} {σ:List AObj} {K:KT} {L:Nat->Loc} {w:World} {a:Act}
def zaH (P:Program) (o:Oper) (a:Act) (L:Nat->Loc) (σ:List AObj) (w:World) (K:KT):Prop:=
 ∃r v L' σ' w',((execOp a.eval o).run P w=.ok (.value v) w'∨((execOp a.eval o).run P w=.ok .skip w'∧v=.tuple #[]))/\zdx L σ w L' σ' w'∧Sim L' σ' w'∧RV w' L' σ' r v/\K r σ'
theorem zaH.same {P:Program}{o:Oper}{a:Act}{L:Nat->Loc}{σ:List AObj}{w:World}{K:KT}(S:Sim L σ w){r:AV}{v:Value}
  (h:(execOp a.eval o).run P w=.ok (.value v) w) (hr:RV w L σ r v) (hk:K r σ):zaH P o a L σ w K:=
 ⟨r,v,L,σ,w,.inl h,zdx.refl _ _ _,S,hr,hk⟩
theorem snd_mv (S:Sim L σ w)(F:FR w L σ fr a.tmps){x:Operand}{y:Opd}(hx:opd x=some y)(ho:o.op=.move x∨o.op=.assign x)(h:zaQ P (.mv y) fr σ K):zaH P o a L σ w K:=by
 refine .same S (r:=ev fr y) (v:=a.eval x) ?_ (zU F hx) h;rcases ho with ho|ho<;>simp[execOp,ho]
theorem litA_exact {v:Value}(h:litA v=some (.exact [])):v=.slice none 0 0:=by
 unfold litA at h;split at h
 ·simp only[Option.map_eq_some_iff,reduceCtorEq,and_false,exists_false]at h
 ·unfold litS at h;split at h<;>first|rfl|(simp at h;done)
theorem snd_nilc (S:Sim L σ w){x:Operand}(hx:opd x=some (.lit (.exact [])))(ho:o.op=.move x∨o.op=.assign x)(h:K .nils σ):zaH P o a L σ w K:=by
 have hv:a.eval x=.slice none 0 0:=by
  cases x with
  | tmp t=>simp[opd]at hx
  | const v=>
   simp only[opd,Option.map_eq_some_iff]at hx
   obtain⟨b,hb,hx⟩:=hx
   cases hx
   exact litA_exact hb
  | global g=>simp[opd]at hx
  | func f=>simp[opd]at hx
 refine .same S (r:=.nils) (v:=a.eval x) ?_ (by rw[hv];exact .nils) h;rcases ho with ho|ho<;>simp[execOp,ho]
theorem snd_pick (S:Sim L σ w)(F:FR w L σ fr a.tmps){c x y:Operand}{c' x' y':Opd}(hc:opd c=some c')(hx:opd x=some x')(hy:opd y=some y')(ho:o.op=.pick c x y)
  (h:zaQ P (.pick c' x' y') fr σ K):zaH P o a L σ w K:=by
 simp only[zaQ,zxL,zbd]at h;split at h
 ·rename_i t ht;have hv:=zU F hc;rw[ht]at hv;have hv:=hv.bool_inv;cases t
  ·exact .same S (r:=ev fr y') (v:=a.eval y) (by simp[execOp,ho,hv,asBool]) (zU F hy) (h.2 rfl)
  ·exact .same S (r:=ev fr x') (v:=a.eval x) (by simp[execOp,ho,hv,asBool]) (zU F hx) (h.1 rfl)
 ·exact h.elim
theorem zgV {t:TypeId}{z:List AV}(h:zsV P t=some z):∃i v,P.info? t=some i/\i.zero=some v/\v.cells.toList.mapM litS=some z:=by
 simp only[zsV,Option.bind_eq_bind,Option.bind_eq_some_iff]at h;obtain⟨i,hi,v,hv,hz⟩:=h;exact⟨i,v,hi,hv,hz⟩
theorem zrG {z:List AV}{v:Value}(h:v.cells.toList.mapM litS=some z):RVs w L σ z v.cells.toList:=by
 obtain⟨h1,h2⟩:=mapM_some h;exact⟨h1.symm,fun i c x hc hx=>ztr (h2 i x c hx hc)⟩
theorem new_box (S:Sim L σ w){cs:List AV}{vs:Array Value}(hv:RVs w L σ cs vs.toList)(t:TypeId) :
  ∃L',zdx L σ w L' (σ++[.box cs]) (w.alloc (.cells vs t))/\Sim L' (σ++[.box cs]) (w.alloc (.cells vs t)) ∧
   L' σ.length={ a:=⟨w.heap.size,0,none⟩ }:=by
 have hf:∀b c,zfw { a:=⟨w.heap.size,0,none⟩ } (.box cs) b c->b=w.heap.size:=fun b c h=>h.1;have s:=zes L σ (.cells vs t) { a:=⟨w.heap.size,0,none⟩ } (.box cs) hf;refine⟨_,s,zgf S (.cells vs t) _ _ hf ⟨rfl,by simp,fun j c hj=>?_⟩,zY _ _ _⟩;have hl:j<vs.size:=by have:=zo hj;have:=hv.1;simp at this;omega
 dsimp only;rw[Nat.zero_add];refine⟨World.frozen?_alloc_at _ _ _ _ rfl,vs[j],?_,s.rv (hv.2 j c _ hj (by simp[hl]))⟩;rw[World.cell?_alloc_new];simp[hl]
theorem snd_alloc (S:Sim L σ w){t:TypeId}{z:List AV}(hz:zsV P t=some z)(ho:o.op=.alloc t)(h:zaQ P (.alloc z) fr σ K):zaH P o a L σ w K:=by
 obtain⟨i,v,hi,hv,hm⟩:=zgV hz;obtain⟨L',s,S',e⟩:=new_box S (zrG hm (w:=w) (L:=L) (σ:=σ)) t;refine⟨.box σ.length 0,.pointer (some ⟨w.heap.size,0,none⟩),L',_,_,.inl ?_,s,S',?_,h⟩
 ·simp[execOp,ho,Instr.alloc,zeroValue,typeInfo,hi,hv,newVar,newRow,newObj,program,Sem.run]
 ·have:=RV.box (w:=w.alloc (.cells v.cells t)) (L:=L') (σ:=σ++[.box z]) σ.length 0 ⟨.box z,by simp,by simp[AObj.kind]⟩;rw[e]at this;simpa using this
theorem RV.cells {x:AV}{v:Value}(h:RV w L σ x v){cs:List AV}(hc:zaO x=some cs):RVs w L σ cs v.cells.toList:=by
 cases h with
 | agg cs' vs h1 h2=>simp[zaO]at hc;subst hc;exact⟨by simpa [Value.cells] using h1,by simpa [Value.cells] using h2⟩
 | tup=>simp[zaO]at hc
 | undef=>simp[zaO]at hc
 | d x v h=>
  simp[zaO]at hc;subst hc
  have e:v.cells=#[v]:=by cases h<;>rfl
  rw[e]
  exact⟨rfl,fun i c u hc hu=>by cases i<;>simp at hc hu;subst hc hu;exact .d _ _ h⟩
 | own t es v sz n h1 h2 h3 h4 h5=>
  simp[zaO]at hc;subst hc
  have e:v.cells=#[v]:=by cases h4<;>rfl
  rw[e]
  exact⟨rfl,fun i c u hc hu=>by cases i<;>simp at hc hu;subst hc hu;exact .own t es v sz n h1 h2 h3 h4 h5⟩
 | exact es b h=>simp[zaO]at hc;subst hc;exact⟨rfl,fun i c u hc hu=>by cases i<;>simp[Value.cells]at hc hu;subst hc hu;exact .exact es b h⟩
 | nils=>simp[zaO]at hc;subst hc;exact⟨rfl,fun i c u hc hu=>by cases i<;>simp[Value.cells]at hc hu;subst hc hu;exact .nils⟩
 | bsl id off len cap sz h1 h2=>simp[zaO]at hc;subst hc;exact⟨rfl,fun i c u hc hu=>by cases i<;>simp[Value.cells]at hc hu;subst hc hu;exact .bsl id off len cap sz h1 h2⟩
 | box id off h=>simp[zaO]at hc;subst hc;exact⟨rfl,fun i c u hc hu=>by cases i<;>simp[Value.cells]at hc hu;subst hc hu;exact .box id off h⟩
 | vp cs' b off h=>simp[zaO]at hc;subst hc;exact⟨rfl,fun i c u hc hu=>by cases i<;>simp[Value.cells]at hc hu;subst hc hu;exact .vp cs' b off h⟩
 | map id h=>simp[zaO]at hc;subst hc;exact⟨rfl,fun i c u hc hu=>by cases i<;>simp[Value.cells]at hc hu;subst hc hu;exact .map id h⟩
 | iter id h=>simp[zaO]at hc;subst hc;exact⟨rfl,fun i c u hc hu=>by cases i<;>simp[Value.cells]at hc hu;subst hc hu;exact .iter id h⟩
 | rsl t g sz lo hi b c h1 h2 h3 h4 h5 h6 h7=>simp[zaO]at hc;subst hc;exact⟨rfl,fun i c u hc hu=>by cases i<;>simp[Value.cells]at hc hu;subst hc hu;exact .rsl t g sz lo hi b _ h1 h2 h3 h4 h5 h6 h7⟩
 | rpt t g off b o h1 h2 h3=>simp[zaO]at hc;subst hc;exact⟨rfl,fun i c u hc hu=>by cases i<;>simp[Value.cells]at hc hu;subst hc hu;exact .rpt t g off b o h1 h2 h3⟩
 | fn f first cap fs gs h1 h2 h3 h4=>simp[zaO]at hc;subst hc;exact⟨rfl,fun i c u hc hu=>by cases i<;>simp[Value.cells]at hc hu;subst hc hu;exact .fn f first cap fs gs h1 h2 h3 h4⟩
theorem snd_box (S:Sim L σ w)(F:FR w L σ fr a.tmps){t:TypeId}{x:Operand}{y:Opd}(hx:opd x=some y)(ho:o.op=.box t x)(h:zaQ P (.boxi y) fr σ K):zaH P o a L σ w K:=by
 simp only[zaQ,zxL,zbd]at h;split at h
 ·rename_i cs hcs;obtain⟨L',s,S',e⟩:=new_box S ((zU F hx).cells hcs) t;refine⟨.box σ.length 0,.pointer (some ⟨w.heap.size,0,none⟩),L',_,_,.inl ?_,s,S',?_,h⟩
  ·simp[execOp,ho,Instr.box,newVar,newRow,newObj,Sem.run]
  ·have:=RV.box (w:=w.alloc (.cells (a.eval x).cells t)) (L:=L') (σ:=σ++[.box cs]) σ.length 0 ⟨.box cs,by simp,by simp[AObj.kind]⟩;rw[e]at this;simpa using this
 ·exact h.elim
end
section
variable {P:Program} {o:Oper} {i:I} {fr:zW} {σ:List AObj} {K:KT} {L:Nat->Loc} {w:World} {a:Act}
theorem zgq {t:TypeId}{b:Bool}(h:zvi P t=some b)(w:World):(isAgg t).run P w=.ok b w:=by
 unfold zvi at h;cases hu:P.underlying t with
 | none=>simp[hu]at h
 | some d=>
  simp only[isAgg,Sem.run_bind,run_underlying hu,Result.andThen_ok]
  cases d<;>simp_all
theorem zcc {t:TypeId}{n:Nat}(h:sizeOf? P t=some n)(w:World):(sizeOf t).run P w=.ok n w:=by
 simp only[sizeOf?,Option.map_eq_some_iff]at h;obtain⟨i,hi,rfl⟩:=h;simp[sizeOf,typeInfo,program,Sem.run,hi]
theorem zcI (b off n:Nat):(Addr.mk b off none).add n=⟨b,off+n,none⟩:=by
 unfold Addr.add;split
 ·rename_i h;subst h;rfl
 ·rfl
theorem zom {t:TypeId}{g:Bool}{n:Nat}(hg:zvi P t=some g)(hn:sizeOf? P t=some n){b off:Nat}{vs:List Value}(h:∀(j:Nat) v,vs[j]? = some v->w.cell? ⟨b,off+j,none⟩=some v)
  (hlen:g=true->vs.length=n) (h1:g=false→0<vs.length):(loadVar t ⟨b,off,none⟩).run P w=.ok (if g then .agg vs.toArray else vs.getD 0 undef) w:=by
 cases g
 ·have h0:0<vs.length:=h1 rfl;have hc:=h 0 vs[0] (by simp[h0]);simp only[Nat.add_zero]at hc;simp[loadVar,zgq hg,hc,List.getD,h0]
 ·have hl:=run_loadCells_list (P:=P) w ⟨b,off,none⟩ vs (fun j v hj=>by rw[zcI];exact h j v hj);rw[hlen rfl]at hl;simp[loadVar,zgq hg,zcc hn,hl]
theorem run_loadAt {t:TypeId}(ad:Addr):(Instr.loadAt t (.pointer (some ad))).run P w=(loadVar t ad).run P w:=by simp[Instr.loadAt,Instr.sureAddr]
theorem snd_load (S:Sim L σ w)(F:FR w L σ fr a.tmps){t:TypeId}{g:Bool}{n:Nat}{x:Operand}{y:Opd}(hg:zvi P t=some g)(hn:sizeOf? P t=some n)(hx:opd x=some y)(ho:o.op=.load t x)
  (h:zaQ P (.load g n y) fr σ K):zaH P o a L σ w K:=by
 simp only[zaQ,ze,zl,zbg,zf]at h;have hv:=zU F hx;have key:∀ {ad v},a.eval x=.pointer (some ad)->(loadVar t ad).run P w=.ok v w->(execOp a.eval o).run P w=.ok (.value v) w:=fun{ad v} e h=>by
  simp[execOp,ho,e,run_loadAt,h]
 split at h
 ·rename_i id off hid;rw[hid]at hv;obtain⟨hv,_⟩:=hv.box_inv;split at h
  ·rename_i cs hcs;obtain⟨_,_,hcells⟩:=S.obj id _ hcs;cases g
   ·simp only[Bool.false_eq_true,if_false]at h;split at h
    ·rename_i c hc;obtain⟨_,v,h1,h2⟩:=hcells off c hc;refine .same S (r:=c) (v:=v) (key hv ?_) h2 h;have:=zom (w:=w) hg hn (b:=(L id).a.block) (off:=(L id).a.off+off) (vs:=[v]) (fun j u hj=>by cases j<;>simp at hj;subst hj;exact h1) (by simp) (by simp);simpa using this
    ·exact h.elim
   ·simp only[if_true]at h;obtain⟨hle,hk⟩:=h;obtain⟨vs,hl,hat⟩:∃vs:List Value,vs.length=n/\∀(j:Nat) v,vs[j]? = some v->w.cell? ⟨(L id).a.block,(L id).a.off+off+j,none⟩=some v/\∀c,cs[off+j]? = some c->RV w L σ c v:=by
     refine⟨(List.range n).map fun j=>(w.cell? ⟨(L id).a.block,(L id).a.off+off+j,none⟩).getD undef,by simp,fun j v hj=>?_⟩;have hjn:j<n:=by have:=zo hj;simpa using this
     simp[hjn]at hj;have hc:cs[off+j]? = some (cs[off+j]'(by omega)):=List.getElem?_eq_getElem _;obtain⟨_,u,h1,h2⟩:=hcells (off+j) _ hc;rw[← Nat.add_assoc]at h1;rw[h1]at hj;simp at hj;subst hj;exact⟨h1,fun c hc'=>by rw[hc]at hc';cases hc';exact h2⟩
    refine .same S (r:=.agg ((cs.drop off).take n)) (v:=.agg vs.toArray) (key hv ?_) (.agg _ _ (by simp;omega) fun j c v hc hv=>?_) hk
    ·have:=zom (w:=w) hg hn (b:=(L id).a.block) (off:=(L id).a.off+off) (vs:=vs) (fun j u hj=>(hat j u hj).1) (fun _=>hl) (by simp);simpa using this
    ·rw[List.getElem?_take]at hc;split at hc
     ·rw[List.getElem?_drop]at hc;exact(hat j v hv).2 c hc
     ·cases hc
  ·exact h.elim
 ·rename_i cs hid;rw[hid]at hv;obtain⟨b,off,heq,hcells⟩:=hv.vp_inv;cases g
  ·simp only[Bool.false_eq_true,if_false]at h;split at h
   ·rename_i c hc;obtain⟨v,h1,_,h2⟩:=hcells 0 c hc;refine .same S (r:=.d c) (v:=v) (key heq ?_) (.d _ _ h2) h;have:=zom (w:=w) hg hn (b:=b) (off:=off) (vs:=[v]) (fun j u hj=>by cases j<;>simp at hj;subst hj;exact h1) (by simp) (by simp);simpa using this
   ·exact h.elim
  ·simp only[if_true]at h;obtain⟨hle,hk⟩:=h;obtain⟨vs,hl,hat⟩:∃vs:List Value,vs.length=n/\∀(j:Nat) v,vs[j]? = some v->w.cell? ⟨b,off+j,none⟩=some v/\∀c,cs[j]? = some c->RD w (Own L σ) c v:=by
    refine⟨(List.range n).map fun j=>(w.cell? ⟨b,off+j,none⟩).getD undef,by simp,fun j v hj=>?_⟩;have hjn:j<n:=by have:=zo hj;simpa using this
    simp[hjn]at hj;have hc:cs[j]? = some (cs[j]'(by omega)):=List.getElem?_eq_getElem _;obtain⟨u,h1,_,h2⟩:=hcells j _ hc;rw[h1]at hj;simp at hj;subst hj;exact⟨h1,fun c hc'=>by rw[hc]at hc';cases hc';exact h2⟩
   refine .same S (r:=.agg ((cs.take n).map .d)) (v:=.agg vs.toArray) (key heq ?_) (.agg _ _ (by simp;omega) fun j c v hc hv=>?_) hk
   ·have:=zom (w:=w) hg hn (b:=b) (off:=off) (vs:=vs) (fun j u hj=>(hat j u hj).1) (fun _=>hl) (by simp);simpa using this
   ·simp only[List.getElem?_map,Option.map_eq_some_iff]at hc;obtain⟨x,hx,rfl⟩:=hc;rw[List.getElem?_take]at hx;split at hx
    ·exact .d _ _ ((hat j v hv).2 x hx)
    ·cases hx
 ·rename_i id gg off hid;rw[hid]at hv;obtain⟨b0,o0,hv,_,_,hcur⟩:=hv.rpt_inv;split at h
  ·rename_i g' s' cs hcs;obtain⟨rfl,h⟩:=h;obtain⟨rfl,rfl⟩:=hcur _ _ hcs;obtain⟨_,_,_,_,_,hcells⟩:=S.obj id _ hcs;cases g
   ·simp only[Bool.false_eq_true,if_false]at h;split at h
    ·rename_i c hc;obtain⟨v,h1,h2⟩:=hcells off c hc;refine .same S (r:=c) (v:=v) (key hv ?_) h2 h;have:=zom (w:=w) hg hn (b:=(L id).a.block) (off:=(L id).a.off+off) (vs:=[v]) (fun j u hj=>by cases j<;>simp at hj;subst hj;exact h1) (by simp) (by simp);simpa using this
    ·exact h.elim
   ·simp only[if_true]at h;obtain⟨hle,hk⟩:=h;obtain⟨vs,hl,hat⟩:∃vs:List Value,vs.length=n/\∀(j:Nat) v,vs[j]? = some v->w.cell? ⟨(L id).a.block,(L id).a.off+off+j,none⟩=some v/\∀c,cs[off+j]? = some c->RV w L σ c v:=by
     refine⟨(List.range n).map fun j=>(w.cell? ⟨(L id).a.block,(L id).a.off+off+j,none⟩).getD undef,by simp,fun j v hj=>?_⟩;have hjn:j<n:=by have:=zo hj;simpa using this
     simp[hjn]at hj;have hc:cs[off+j]? = some (cs[off+j]'(by omega)):=List.getElem?_eq_getElem _;obtain⟨u,h1,h2⟩:=hcells (off+j) _ hc;rw[← Nat.add_assoc]at h1;rw[h1]at hj;simp at hj;subst hj;exact⟨h1,fun c hc'=>by rw[hc]at hc';cases hc';exact h2⟩
    refine .same S (r:=.agg ((cs.drop off).take n)) (v:=.agg vs.toArray) (key hv ?_) (.agg _ _ (by simp;omega) fun j c v hc hv=>?_) hk
    ·have:=zom (w:=w) hg hn (b:=(L id).a.block) (off:=(L id).a.off+off) (vs:=vs) (fun j u hj=>(hat j u hj).1) (fun _=>hl) (by simp);simpa using this
    ·rw[List.getElem?_take]at hc;split at hc
     ·rw[List.getElem?_drop]at hc;exact(hat j v hv).2 c hc
     ·cases hc
  ·exact h.elim
 ·exact h.elim
theorem RV.one {x:AV}{v:Value}(h:RV w L σ x v)(hs:sc x=true):v.oneCell'=true:=by
 cases h with
 | d _ _ h=>cases h<;>rfl
 | own _ _ _ _ _ _ _ _ h=>cases h<;>rfl
 | agg=>simp[sc]at hs
 | tup=>simp[sc]at hs
 | undef=>simp[sc]at hs
 | _=>rfl
theorem zzO {cs xs:List AV}{off:Nat}(h:off+xs.length<=cs.length):(zaq cs off xs).length=cs.length:=by simp[zaq];omega
theorem zyo (cs:List AV)(off:Nat):zaq cs off []=cs:=by simp[zaq]
theorem zvL {cs xs:List AV}{off:Nat}{x:AV}(h:off+xs.length<cs.length):zaq cs off (x::xs)=zaq (cs.set off x) (off+1) xs:=by
 apply List.ext_getElem?;intro j;simp only[zaq,List.append_assoc,List.getElem?_append,List.length_take,List.length_set,List.length_cons,List.cons_append];have h1:min off cs.length=off:=by omega
 have h2:min (off+1) cs.length=off+1:=by omega
 rw[h1,h2];by_cases c1:j<off
 ·rw[if_pos c1,if_pos (by omega)];simp[c1,show j<off+1 by omega,List.getElem?_set_ne (show off≠j by omega)]
 ·rw[if_neg c1];by_cases c2:j=off
  ·subst c2;simp[show j<cs.length by omega]
  ·rw[if_neg (by omega)];rw[show j-off=(j-(off+1))+1 by omega,List.getElem?_cons_succ,List.getElem?_append];split
   ·rfl
   ·simp only[List.getElem?_drop];rw[List.getElem?_set_ne (by omega)];congr 1;omega
theorem zua (id:Nat):∀(xs:List AV) (vs:List Value) (cs:List AV) (off i:Nat) (σ:List AObj) (w:World),Sim L σ w→σ[id]? = some (.box cs)->RVs w L σ xs vs->xs.all sc=true->off+i+xs.length<=cs.length →
  ∃w',(storeCells ⟨(L id).a.block,(L id).a.off+off,none⟩ vs i).run P w=.ok () w'∧zdx L σ w L (σ.set id (.box (zaq cs (off+i) xs))) w'∧Sim L (σ.set id (.box (zaq cs (off+i) xs))) w'
 | [],[],cs,off,i,σ,w,S,hcs,_,_,_=>by
  refine⟨w,by simp[storeCells],?_⟩;have e:σ.set id (.box (zaq cs (off+i) []))=σ:=by
   rw[zyo];obtain⟨hl,hh⟩:=List.getElem?_eq_some_iff.1 hcs;rw[← hh];exact List.set_getElem_self hl
  rw[e];exact⟨zdx.refl _ _ _,S⟩
 | [],v::vs,_,_,_,_,_,_,_,hv,_,_=>by have:=hv.1;simp at this
 | x::xs,[],_,_,_,_,_,_,_,hv,_,_=>by have:=hv.1;simp at this
 | x::xs,v::vs,cs,off,i,σ,w,S,hcs,hv,hs,hle=>by
  simp only[List.length_cons]at hle;simp only[List.all_cons,Bool.and_eq_true]at hs;have hx:=hv.2 0 x v rfl rfl;obtain⟨s1,S1⟩:=box_store S hcs (j:=off+i) (by omega) hx;obtain⟨_,_,hcells⟩:=S.obj id _ hcs;have hc:cs[off+i]? = some (cs[off+i]'(by omega)):=List.getElem?_eq_getElem _;obtain⟨hf,u,hu,_⟩:=hcells (off+i) _ hc;have hrest:RVs (w.setCell ⟨(L id).a.block,(L id).a.off+(off+i),none⟩ v) L (σ.set id (.box (cs.set (off+i) x))) xs vs:=
   ⟨by have:=hv.1;simpa using this,fun j b z hb hz=>s1.rv (hv.2 (j+1) b z hb hz)⟩
  obtain⟨w',r,s2,S2⟩:=zua id xs vs (cs.set (off+i) x) off (i+1) (σ.set id (.box (cs.set (off+i) x))) _ S1 (by rw[List.getElem?_set];simp[zo hcs]) hrest hs.2 (by simp;omega);have e:zaq (cs.set (off+i) x) (off+(i+1)) xs=zaq cs (off+i) (x::xs):=(zvL (by omega)).symm;rw[e]at s2 S2;simp only[List.set_set]at s2 S2;refine⟨w',?_,s1.trans s2,S2⟩;have hone:=hx.one hs.1;rw[storeCells];rw[← Nat.add_assoc]at hu hf;have hst:(store ((Addr.mk (L id).a.block ((L id).a.off+off) none).add i) v).run P w=.ok () (w.setCell ⟨(L id).a.block,(L id).a.off+(off+i),none⟩ v):=by
   rw[zcI,Nat.add_assoc];rw[Nat.add_assoc]at hu hf;cases v<;>first|(simp[Value.oneCell']at hone;done)|simp[store,Sem.run,hu,hf]
  simp[hst,r]
theorem ztZ (id g sz:Nat):∀(xs:List AV) (vs:List Value) (cs:List AV) (off i:Nat) (σ:List AObj) (w:World),Sim L σ w→σ[id]? = some (.row g sz cs)->RVs w L σ xs vs->xs.all sc=true->off+i+xs.length<=cs.length →
  ∃w',(storeCells ⟨(L id).a.block,(L id).a.off+off,none⟩ vs i).run P w=.ok () w'∧zdx L σ w L (σ.set id (.row g sz (zaq cs (off+i) xs))) w'∧Sim L (σ.set id (.row g sz (zaq cs (off+i) xs))) w'
 | [],[],cs,off,i,σ,w,S,hcs,_,_,_=>by
  refine⟨w,by simp[storeCells],?_⟩;have e:σ.set id (.row g sz (zaq cs (off+i) []))=σ:=by
   rw[zyo];obtain⟨hl,hh⟩:=List.getElem?_eq_some_iff.1 hcs;rw[← hh];exact List.set_getElem_self hl
  rw[e];exact⟨zdx.refl _ _ _,S⟩
 | [],v::vs,_,_,_,_,_,_,_,hv,_,_=>by have:=hv.1;simp at this
 | x::xs,[],_,_,_,_,_,_,_,hv,_,_=>by have:=hv.1;simp at this
 | x::xs,v::vs,cs,off,i,σ,w,S,hcs,hv,hs,hle=>by
  simp only[List.length_cons]at hle;simp only[List.all_cons,Bool.and_eq_true]at hs;have hx:=hv.2 0 x v rfl rfl;obtain⟨_,⟨n,hn,hcap⟩,_,_,hall,hcells⟩:=S.obj id _ hcs;have hmul:n*sz<=(L id).cap*sz:=Nat.mul_le_mul_right _ hcap;obtain⟨s1,S1⟩:=row_store S hcs (j:=off+i) (by omega) hx hs.1;obtain⟨⟨u,hu⟩,hf⟩:=hall ((L id).a.off+(off+i)) (by omega) (by omega);have hrest:RVs (w.setCell ⟨(L id).a.block,(L id).a.off+(off+i),none⟩ v) L (σ.set id (.row g sz (cs.set (off+i) x))) xs vs:=
   ⟨by have:=hv.1;simpa using this,fun j b z hb hz=>s1.rv (hv.2 (j+1) b z hb hz)⟩
  obtain⟨w',r,s2,S2⟩:=ztZ id g sz xs vs (cs.set (off+i) x) off (i+1) (σ.set id (.row g sz (cs.set (off+i) x))) _ S1 (by rw[List.getElem?_set];simp[zo hcs]) hrest hs.2 (by simp;omega);have e:zaq (cs.set (off+i) x) (off+(i+1)) xs=zaq cs (off+i) (x::xs):=(zvL (by omega)).symm;rw[e]at s2 S2;simp only[List.set_set]at s2 S2;refine⟨w',?_,s1.trans s2,S2⟩;have hone:=hx.one hs.1;rw[storeCells];rw[← Nat.add_assoc]at hu hf;have hst:(store ((Addr.mk (L id).a.block ((L id).a.off+off) none).add i) v).run P w=.ok () (w.setCell ⟨(L id).a.block,(L id).a.off+(off+i),none⟩ v):=by
   rw[zcI,Nat.add_assoc];rw[Nat.add_assoc]at hu hf;cases v<;>first|(simp[Value.oneCell']at hone;done)|simp[store,Sem.run,hu,hf]
  simp[hst,r]
theorem snd_store (S:Sim L σ w)(F:FR w L σ fr a.tmps){t:TypeId}{n:Nat}{x y:Operand}{x' y':Opd}(hn:sizeOf? P t=some n)(hx:opd x=some x')(hy:opd y=some y')(ho:o.op=.store t x y)
  (h:zaQ P (.store n x' y') fr σ K):zaH P o a L σ w K:=by
 simp only[zaQ,ze,zl,zbg,zf]at h;have hv:=zU F hx;have hu:=zU F hy;split at h
 ·rename_i id off xs hid hxs;rw[hid]at hv;obtain⟨hv,_⟩:=hv.box_inv;split at h
  ·rename_i cs hcs;obtain⟨hl,hle,hsc,hk⟩:=h;have hrv:=hu.cells hxs;obtain⟨w',r,s,S'⟩:=zua (P:=P) id xs _ cs off 0 σ w S hcs hrv hsc (by omega);refine⟨.tup [],.tuple #[],L,_,w',.inr ⟨?_,rfl⟩,s,S',.tup [] [] rfl (by simp),hk⟩;have hsz:(a.eval y).cells.size=n:=by have:=hrv.1;simp at this;omega
   simp[execOp,ho,hv,Instr.storeAt,Instr.sureAddr,storeVar,hsz,zcc hn,r]
  ·exact h.elim
 ·rename_i id gg off xs hid hxs;rw[hid]at hv;obtain⟨b0,o0,hv,_,_,hcur⟩:=hv.rpt_inv;split at h
  ·rename_i g' s' cs hcs;obtain⟨rfl,hl,hle,hsc,hk⟩:=h;obtain⟨rfl,rfl⟩:=hcur _ _ hcs;have hrv:=hu.cells hxs;obtain⟨w',r,s,S'⟩:=ztZ (P:=P) id g' s' xs _ cs off 0 σ w S hcs hrv hsc (by omega);refine⟨.tup [],.tuple #[],L,_,w',.inr ⟨?_,rfl⟩,s,S',.tup [] [] rfl (by simp),hk⟩;have hsz:(a.eval y).cells.size=n:=by have:=hrv.1;simp at this;omega
   simp[execOp,ho,hv,Instr.storeAt,Instr.sureAddr,storeVar,hsz,zcc hn,r]
  ·exact h.elim
 ·exact h.elim
theorem snd_nilchk (S:Sim L σ w)(F:FR w L σ fr a.tmps){x:Operand}{x':Opd}(hx:opd x=some x')(ho:o.op=.nilCheck x)(h:zaQ P (.nilchk x') fr σ K):zaH P o a L σ w K:=by
 simp only[zaQ,ze,zl,zbg,zf]at h;have hv:=zU F hx;split at h
 ·rename_i id off hid;rw[hid]at hv;refine .same S (r:=.box id off) (v:=a.eval x) ?_ hv h;obtain⟨hv,_⟩:=hv.box_inv;simp[execOp,ho,hv]
 ·rename_i cs hid;rw[hid]at hv;refine .same S (r:=.vp cs) (v:=a.eval x) ?_ hv h;obtain⟨b,off,heq,_⟩:=hv.vp_inv;simp[execOp,ho,heq]
 ·rename_i id gg off hid;rw[hid]at hv;refine .same S (r:=.rpt id gg off) (v:=a.eval x) ?_ hv h;obtain⟨b0,o0,hv,_⟩:=hv.rpt_inv;simp[execOp,ho,hv]
 ·rename_i f b c hid;rw[hid]at hv;refine .same S (r:=.fn (.func f) b c) (v:=a.eval x) ?_ hv h;obtain⟨fs,cs,heq,_,_⟩:=hv.fn_inv;simp[execOp,ho,heq]
 ·exact h.elim
theorem snd_un (S:Sim L σ w)(F:FR w L σ fr a.tmps){op:UnOp}{t:TypeId}{x:Operand}{x':Opd}(hx:opd x=some x')(ho:o.op=.unOp op t x)(h:zaQ P (.un op x') fr σ K):zaH P o a L σ w K:=by
 simp only[zaQ,unA]at h;have hv:=zU F hx;split at h
 ·rename_i b hid;rw[hid]at hv;have hv:=hv.bool_inv;exact .same S (r:=.d (.bool (!b))) (v:=.bool (!b)) (by simp[execOp,ho,hv,Op.unary]) (.d _ _ (.bool _)) h
 ·rename_i k n hid;rw[hid]at hv;have hv:=hv.int_inv;exact .same S (r:=.d (.int k (k.wrap (0-n)))) (v:=.int k (k.wrap (0-n))) (by simp[execOp,ho,hv,Op.unary,Op.intArith]) (.d _ _ (.int _ _)) h
 ·exact h.elim
theorem snd_extract (S:Sim L σ w)(F:FR w L σ fr a.tmps){k:Nat}{x:Operand}{x':Opd}(hx:opd x=some x')(ho:o.op=.extract x k)(h:zaQ P (.extract x' k) fr σ K):zaH P o a L σ w K:=by
 simp only[zaQ,ze,zl,zbg,zf]at h;have hv:=zU F hx;split at h
 ·rename_i vs hid;rw[hid]at hv;obtain⟨us,hv,h1,h2⟩:=hv.tup_inv;split at h
  ·rename_i c hc;have hl:=zo hc;have hu:us[k]? = some us[k]:=by simp[h1,hl]
   exact .same S (r:=c) (v:=us[k]) (by simp[execOp,ho,hv,Instr.extract,hu]) (h2 k c _ hc hu) h
  ·exact h.elim
 ·exact h.elim
theorem snd_mkfn (S:Sim L σ w)(F:FR w L σ fr a.tmps){f:Fn}{first cap:Array Operand}{f' c':List Opd}(h1:first.toList.mapM opd=some f')(h2:cap.toList.mapM opd=some c')(ho:o.op=.makeFunc f first cap)
  (h:zaQ P (.mkfn f f' c') fr σ K):zaH P o a L σ w K:=by
 have e1:=zmy F h1;have e2:=zmy F h2;refine .same S (r:=.fn f (f'.map (ev fr)) (c'.map (ev fr))) (v:=.func f (first.map a.eval) (cap.map a.eval)) (by simp[execOp,ho,Instr.makeFunc]) ?_ h;have:=RV.fn (w:=w) (L:=L) (σ:=σ) f _ _ _ _ e1.1 e2.1 e1.2 e2.2;have k1:(first.toList.map a.eval).toArray=first.map a.eval:=by apply Array.ext';simp
 have k2:(cap.toList.map a.eval).toArray=cap.map a.eval:=by apply Array.ext';simp
 rw[k1,k2]at this;exact this
end
section
variable {P:Program} {o:Oper} {i:I} {fr:zW} {σ:List AObj} {K:KT} {L:Nat->Loc} {w:World} {a:Act}
theorem ba_toList (l:List UInt8):(ByteArray.mk l.toArray).toList=l:=ByteArray.toList_mk l
theorem run_binInt {op:BinOp}{t:TypeId}{k k':IntKind}{x y:Int}(h:zho op .plain (.d (.int k x)) (.d (.int k' y)) (fun a=>K a σ)) :
  ∃d,(∀w,(binOp op t (.int k x) (.int k' y)).run P w=.ok d w/\∃r,RD w (Own L σ) r d/\K (.d r) σ):=by
 simp only[zho]at h;cases op<;>simp only[zdP]at h <;>
  first
   | (
    obtain⟨rfl,h0,h⟩:=h
    refine⟨_,fun w=>⟨?_,_,.int _ _,h⟩⟩
    simp[binOp,Op.intDiv,h0];done)
   | (
    obtain⟨rfl,h⟩:=h
    refine⟨_,fun w=>⟨?_,_,.int _ _,h⟩⟩
    simp[binOp,Op.intArith,Op.intBits];done)
   | (
    obtain⟨rfl,h⟩:=h
    refine⟨_,fun w=>⟨?_,_,.bool _,h⟩⟩
    simp[binOp,Op.intCmp];done)
   | (
    obtain⟨h0,h⟩:=h
    refine⟨_,fun w=>⟨?_,_,.int _ _,h⟩⟩
    simp[binOp,Op.shift,Int.not_lt.2 h0];done)
   | exact h.2.elim
theorem run_binStr {op:BinOp}{t:TypeId}{x y:List UInt8}(h:zho op .plain (.d (.str x)) (.d (.str y)) (fun a=>K a σ)) :
  ∃d,(∀w,(binOp op t (.string ⟨x.toArray⟩) (.string ⟨y.toArray⟩)).run P w=.ok d w/\∃r,RD w (Own L σ) r d/\K (.d r) σ):=by
 simp only[zho]at h;cases op<;>simp only[zdy]at h <;>
  first
   | (
    obtain⟨h0,h⟩:=h
    refine⟨.string ⟨(x++y).toArray⟩,fun w=>⟨?_,_,.str _,h⟩⟩
    have e:(ByteArray.mk x.toArray++ByteArray.mk y.toArray)=⟨(x++y).toArray⟩:=by
     apply ByteArray.ext;simp
    have e2:¬((((ByteArray.mk x.toArray).size+(ByteArray.mk y.toArray).size:Nat):Int)>IntKind.i64.max):=by
     have e3:(ByteArray.mk x.toArray).size=x.length:=by simp[ByteArray.size]
     have e4:(ByteArray.mk y.toArray).size=y.length:=by simp[ByteArray.size]
     rw[e3,e4,IntKind.max_i64];omega
    simp only[binOp,Op.stringOp]
    rw[if_neg e2,e];rfl)
   | (
    refine⟨_,fun w=>⟨?_,_,.bool _,h⟩⟩
    simp[binOp,Op.stringOp];done)
   | exact h.elim
theorem zpK {t:TypeId}{n:Nat}(h:zxN P t=some n):∃fs i,P.underlying t=some (.struct fs)/\P.stoodInHeld t=false/\P.eqGuardType P.depth t=false/\fs.size=n/\P.info? t=some i/\i.size=fs.size ∧
  ∀ (k : Nat) f, fs[k]? = some f → f.name ≠ "_" ∧ f.offset = k ∧ ∃ q, P.underlying f.type = some (.int q) := by
 unfold zxN at h;split at h
 ·rename_i fs hfs;simp only[Option.ite_none_right_eq_some,Option.some.injEq]at h;obtain⟨hall,rfl⟩:=h;simp only[intsOk,Bool.and_eq_true,Bool.not_eq_true']at hall;obtain⟨⟨⟨h1,h2⟩,h3⟩,h4⟩:=hall;unfold sizeIs at h3;split at h3
  ·rename_i i hi;refine⟨fs,i,hfs,h1,h2,rfl,hi,by simpa using h3,fun k f hk=>?_⟩;have:=List.all_eq_true.1 h4 (f,k) (by rw[List.mem_iff_getElem?];exact⟨k,by simp[List.getElem?_zipIdx,hk]⟩);simp only[Bool.and_eq_true,bne_iff_ne,ne_eq,beq_iff_eq]at this;refine⟨this.1.1,this.1.2,?_⟩;have h3:=this.2;unfold intT at h3;split at h3
   ·rename_i q hq;exact⟨q,hq⟩
   ·cases h3
  ·cases h3
 ·cases h
theorem ztR (t:TypeId)(b:Option Addr)(y:Value)(hy:∀k n,y≠.int k n):binOp .eql t (.pointer b) y=(do pure (.bool (← Op.equal t (.pointer b) y))):=by
 cases y<;>first|rfl|exact absurd rfl (hy _ _)
theorem ztQ (t:TypeId)(b:Option Addr)(y:Value)(hy:∀k n,y≠.int k n):binOp .neq t (.pointer b) y=(do pure (.bool (!(← Op.equal t (.pointer b) y)))):=by
 cases y<;>first|rfl|exact absurd rfl (hy _ _)
theorem bin_eqlB (t:TypeId)(b c:Bool):binOp .eql t (.bool b) (.bool c)=(do pure (.bool (← Op.equal t (.bool b) (.bool c)))):=rfl
theorem bin_neqB (t:TypeId)(b c:Bool):binOp .neq t (.bool b) (.bool c)=(do pure (.bool (!(← Op.equal t (.bool b) (.bool c))))):=rfl
theorem zqo {t:TypeId}(ht:P.underlying t=some .bool)(b c:Bool)(w:World):(Op.equal t (.bool b) (.bool c)).run P w=.ok (b==c) w:=run_equalIn_bool' w 9999 t b c ht
theorem equalIn_nilR {t s:TypeId}(ht:P.underlying t=some (.pointer s))(b:Option Addr)(d:Nat)(w:World):(Op.equalIn (d+1) t (.pointer b) (.pointer none)).run P w=.ok b.isNone w:=by
 cases b<;>simp[Op.equalIn,run_underlying ht]
theorem equalIn_nilL {t s:TypeId}(ht:P.underlying t=some (.pointer s))(b:Option Addr)(d:Nat)(w:World):(Op.equalIn (d+1) t (.pointer none) (.pointer b)).run P w=.ok b.isNone w:=by
 cases b<;>simp[Op.equalIn,run_underlying ht]
theorem zqn {t s:TypeId}(ht:P.underlying t=some (.pointer s))(b:Option Addr)(w:World):(Op.equal t (.pointer b) (.pointer none)).run P w=.ok b.isNone w:=equalIn_nilR ht b 9999 w
theorem ziB {t s:TypeId}(ht:P.underlying t=some (.pointer s))(b:Option Addr)(w:World):(Op.equal t (.pointer none) (.pointer b)).run P w=.ok b.isNone w:=equalIn_nilL ht b 9999 w
theorem ziv {x y:AV}{xs ys:List AV}{r:Bool}(h:zce (x::xs) (y::ys)=some r):∃k a b r',x=.d (.int k a)/\y=.d (.int k b)/\zce xs ys=some r'∧r=((a==b)&&r'):=by
 unfold zce at h;split at h
 ·rename_i e1 e2;cases e1
 ·rename_i k a rr k' b ss e1 e2;cases e1;cases e2;split at h
  ·rename_i hk;subst hk;simp only[Option.map_eq_some_iff]at h;obtain⟨r',h1,h2⟩:=h;exact⟨k,a,b,r',rfl,rfl,h1,h2.symm⟩
  ·cases h
 ·cases h
theorem znm (d : Nat) : ∀ (l : List Field) (s : Nat) (xs ys : List AV) (us vs : List Value) (r : Bool), (∀ (k : Nat) f, l[k]? = some f → f.name ≠ "_" ∧ f.offset = s + k ∧ ∃ q, P.underlying f.type = some (.int q)) →
  xs.length=l.length->RVs w L σ xs (us.drop s)->RVs w L σ ys (vs.drop s)->zce xs ys=some r->(Op.eqFields (d+1) us.toArray vs.toArray l).run P w=.ok r w
 | [],s,xs,ys,us,vs,r,_,hl,_,_,hr=>by
  have:xs=[]:=by simpa using hl
  subst this;cases ys with
  | nil=>simp[zce]at hr;subst hr;simp[Op.eqFields]
  | cons y ys=>simp[zce]at hr
 | f::l,s,xs,ys,us,vs,r,hf,hl,hx,hy,hr=>by
  cases xs with
  | nil=>simp at hl
  | cons x xs=>
  cases ys with
  | nil=>simp[zce]at hr
  | cons y ys=>
  obtain⟨k,a,b,r',rfl,rfl,hr',rfl⟩:=ziv hr;obtain⟨hn,ho,q,hq⟩:=hf 0 f rfl;have hu:us[s]? = some (.int k a):=by
   have h1:=hx.1;simp at h1;have h2:us[s]? = some (us[s]'(by omega)):=List.getElem?_eq_getElem _;have:=hx.2 0 _ (us[s]'(by omega)) rfl (by simp[List.getElem?_drop,h2]);rw[h2,this.int_inv]
  have hv:vs[s]? = some (.int k b):=by
   have h1:=hy.1;simp at h1;have h2:vs[s]? = some (vs[s]'(by omega)):=List.getElem?_eq_getElem _;have:=hy.2 0 _ (vs[s]'(by omega)) rfl (by simp[List.getElem?_drop,h2]);rw[h2,this.int_inv]
  have hag:zvi P f.type=some false:=by simp[zvi,hq]
  have p1:(part f.type us.toArray f.offset).run P w=.ok (.int k a) w:=by simp[part,zgq hag,ho,hu]
  have p2:(part f.type vs.toArray f.offset).run P w=.ok (.int k b) w:=by simp[part,zgq hag,ho,hv]
  have ih:=znm d l (s+1) xs ys us vs r' (fun j g hj=>by have:=hf (j+1) g hj;exact⟨this.1,by rw[this.2.1];omega,this.2.2⟩) (by simpa using hl)
   ⟨by have:=hx.1;simp at this ⊢;omega,fun j c u hc hu=>hx.2 (j+1) c u hc (by rw[List.getElem?_drop]at hu ⊢;rw[← hu];congr 1;omega)⟩
   ⟨by have:=hy.1;simp at this ⊢;omega,fun j c u hc hu=>hy.2 (j+1) c u hc (by rw[List.getElem?_drop]at hu ⊢;rw[← hu];congr 1;omega)⟩ hr'
  simp only[Op.eqFields,if_pos hn,Sem.run_bind,p1,p2,Result.andThen_ok,run_equalIn_int w d f.type k q a b hq];cases hab:a==b
  ·simp
  ·simpa using ih
theorem zlB {c:Bool}{sh:List Bool}{xs ys:List AV}{r:Bool}(h:zcj (c::sh) xs ys=some r) :
  (∃k a b rx ry r',c=false/\xs=.d (.int k a)::rx/\ys=.d (.int k b)::ry/\zcj sh rx ry=some r'∧r=((a==b)&&r')) ∨
  (∃a b rx ry r',c=true/\xs=.d (.str a)::rx/\ys=.d (.str b)::ry/\zcj sh rx ry=some r'∧r=((a==b)&&r')):=by
 unfold zcj at h;split at h
 ·rename_i e1;cases e1
 ·rename_i sh2 k a rx k' b ry e1;cases e1;split at h
  ·rename_i hk;subst hk;simp only[Option.map_eq_some_iff]at h;obtain⟨r',h1,h2⟩:=h;exact .inl ⟨k,a,b,rx,ry,r',rfl,rfl,rfl,h1,h2.symm⟩
  ·cases h
 ·rename_i sh2 a rx b ry e1;cases e1;simp only[Option.map_eq_some_iff]at h;obtain⟨r',h1,h2⟩:=h;exact .inr ⟨a,b,rx,ry,r',rfl,rfl,rfl,h1,h2.symm⟩
 ·cases h
theorem zrA:∀ {sh:List Bool} {xs ys:List AV} {r:Bool},zcj sh xs ys=some r->xs.length=sh.length/\ys.length=sh.length
 | [],[],[],_,_=>⟨rfl,rfl⟩
 | [],[],_::_,_,h=>by simp[zcj]at h
 | [],_::_,_,_,h=>by simp[zcj]at h
 | c::sh,xs,ys,r,h=>by
  rcases zlB h with⟨k,a,b,rx,ry,r',rfl,rfl,rfl,h1,rfl⟩|⟨a,b,rx,ry,r',rfl,rfl,rfl,h1,rfl⟩ <;>
  ·have:=zrA h1;simp only[List.length_cons];omega
theorem zwR:∀ {a b:List Bool} {xs ys:List AV} {r:Bool},zcj (a++b) xs ys=some r->∃r1 r2,zcj a (xs.take a.length) (ys.take a.length)=some r1/\zcj b (xs.drop a.length) (ys.drop a.length)=some r2/\r=(r1&&r2)
 | [],b,xs,ys,r,h=>⟨true,r,by simp[zcj],by simpa using h,by simp⟩
 | c::a,b,xs,ys,r,h=>by
  simp only[List.cons_append]at h;rcases zlB h with⟨k,p,q,rx,ry,r',rfl,rfl,rfl,h1,rfl⟩|⟨p,q,rx,ry,r',rfl,rfl,rfl,h1,rfl⟩ <;>
  ·obtain⟨r1,r2,h2,h3,h4⟩:=zwR h1;exact⟨(p==q)&&r1,r2,by simp[zcj,h2],by simpa using h3,by rw[h4,Bool.and_assoc]⟩
theorem zhI:∀(d:Nat) (l:List Field) (s:Nat) (sh:List Bool) (dd:Nat) (xs ys:List AV) (us vs:List Value) (r:Bool),zAn P d l s=some sh->d<=dd →
  RVs w L σ xs (us.drop s)->RVs w L σ ys (vs.drop s)->zcj sh xs ys=some r->(Op.eqFields (dd+1) us.toArray vs.toArray l).run P w=.ok r w
 | _,[],s,sh,dd,xs,ys,us,vs,r,hf,_,hx,hy,hr=>by
  simp only[zAn,Option.some.injEq]at hf;subst hf;obtain⟨h1,h2⟩:=zrA hr;have h1:xs=[]:=by simpa using h1
  have h2:ys=[]:=by simpa using h2
  subst h1 h2;simp[zcj]at hr;subst hr;simp[Op.eqFields]
 | 0,f::l,s,sh,dd,xs,ys,us,vs,r,hf,_,_,_,_=>by simp[zAn]at hf
 | d+1,f::l,s,sh,dd,xs,ys,us,vs,r,hf,hd,hx,hy,hr=>by
  simp only[zAn]at hf;split at hf;rotate_left
  ·cases hf
  rename_i hno;simp only[Bool.and_eq_true,bne_iff_ne,ne_eq,beq_iff_eq]at hno;obtain⟨hn,ho⟩:=hno;have tl:∀ {zs:List AV} {ws:List Value} {n:Nat},RVs w L σ zs (ws.drop s)->RVs w L σ (zs.drop n) (ws.drop (s+n)):=fun{zs ws n} h=>
   ⟨by have:=h.1;simp at this ⊢;omega,fun j c u hc hu=>h.2 (n+j) c u (by rw[List.getElem?_drop]at hc;exact hc) (by rw[List.getElem?_drop]at hu ⊢;rw[← hu];congr 1;omega)⟩
  split at hf
  ·skip;rename_i q hq;simp only[Option.map_eq_some_iff]at hf;obtain⟨sh',hf',rfl⟩:=hf;rcases zlB hr with⟨k,a,b,rx,ry,r',_,rfl,rfl,hr',rfl⟩|⟨_,_,_,_,_,hc,_⟩
   ·skip
    ·skip;have hu:us[s]? = some (.int k a):=by
      have h1:=hx.1;simp at h1;have h2:us[s]? = some (us[s]'(by omega)):=List.getElem?_eq_getElem _;have:=hx.2 0 _ (us[s]'(by omega)) rfl (by simp[List.getElem?_drop,h2]);rw[h2,this.int_inv]
     have hv:vs[s]? = some (.int k b):=by
      have h1:=hy.1;simp at h1;have h2:vs[s]? = some (vs[s]'(by omega)):=List.getElem?_eq_getElem _;have:=hy.2 0 _ (vs[s]'(by omega)) rfl (by simp[List.getElem?_drop,h2]);rw[h2,this.int_inv]
     have hag:zvi P f.type=some false:=by simp[zvi,hq]
     have p1:(part f.type us.toArray f.offset).run P w=.ok (.int k a) w:=by simp[part,zgq hag,ho,hu]
     have p2:(part f.type vs.toArray f.offset).run P w=.ok (.int k b) w:=by simp[part,zgq hag,ho,hv]
     have ih:=zhI d l (s+1) sh' dd rx ry us vs r' hf' (by omega) (tl (n:=1) hx) (tl (n:=1) hy) hr';simp only[Op.eqFields,if_pos hn,Sem.run_bind,p1,p2,Result.andThen_ok,run_equalIn_int w dd f.type k q a b hq];cases hab:a==b
     ·simp
     ·simpa using ih
   ·cases hc
  ·skip;rename_i hq;simp only[Option.map_eq_some_iff]at hf;obtain⟨sh',hf',rfl⟩:=hf;rcases zlB hr with⟨_,_,_,_,_,_,hc,_⟩|⟨a,b,rx,ry,r',_,rfl,rfl,hr',rfl⟩
   ·cases hc
   ·skip;have hu:us[s]? = some (.string ⟨a.toArray⟩):=by
     have h1:=hx.1;simp at h1;have h2:us[s]? = some (us[s]'(by omega)):=List.getElem?_eq_getElem _;have:=hx.2 0 _ (us[s]'(by omega)) rfl (by simp[List.getElem?_drop,h2]);rw[h2,this.str_inv]
    have hv:vs[s]? = some (.string ⟨b.toArray⟩):=by
     have h1:=hy.1;simp at h1;have h2:vs[s]? = some (vs[s]'(by omega)):=List.getElem?_eq_getElem _;have:=hy.2 0 _ (vs[s]'(by omega)) rfl (by simp[List.getElem?_drop,h2]);rw[h2,this.str_inv]
    have hag:zvi P f.type=some false:=by simp[zvi,hq]
    have p1:(part f.type us.toArray f.offset).run P w=.ok (.string ⟨a.toArray⟩) w:=by simp[part,zgq hag,ho,hu]
    have p2:(part f.type vs.toArray f.offset).run P w=.ok (.string ⟨b.toArray⟩) w:=by simp[part,zgq hag,ho,hv]
    have ih:=zhI d l (s+1) sh' dd rx ry us vs r' hf' (by omega) (tl (n:=1) hx) (tl (n:=1) hy) hr';simp only[Op.eqFields,if_pos hn,Sem.run_bind,p1,p2,Result.andThen_ok,run_equalIn_string w dd f.type _ _ hq,ba_toList];cases hab:a==b
    ·simp
    ·simpa using ih
  ·skip;rename_i fs hq;split at hf
   ·cases hf
   rename_i hst;split at hf;rotate_left
   ·cases hf
   rename_i sh1 hf1;split at hf;rotate_left
   ·cases hf
   rename_i hsz;simp only[Option.map_eq_some_iff]at hf;obtain⟨sh2,hf',rfl⟩:=hf;obtain⟨r1,r2,c1,c2,rfl⟩:=zwR hr;obtain⟨n1,n2⟩:=zrA hr;rw[List.length_append]at n1 n2;have hsz':sizeOf? P f.type=some sh1.length:=by
    unfold sizeIs at hsz;split at hsz
    ·rename_i i hi;simp[sizeOf?,hi];simpa using hsz
    ·cases hsz
   have hag:zvi P f.type=some true:=by simp[zvi,hq]
   have hd2:∀ {zs:List AV} {ws:List Value},RVs w L σ zs (ws.drop s)->RVs w L σ (zs.take sh1.length) (((ws.drop s).take sh1.length).drop 0):=fun{zs ws} h=>
    ⟨by have:=h.1;simp at this ⊢;omega,fun j c u hc hu=>by
     rw[List.drop_zero]at hu;rw[List.getElem?_take]at hc hu;split at hc
     ·rename_i hj;rw[if_pos hj]at hu;exact h.2 j c u hc hu
     ·cases hc⟩
   have ex:∀ws:List Value,ws.toArray.extract s (s+sh1.length)=((ws.drop s).take sh1.length).toArray:=fun ws=>by
    simp[List.extract_toArray,List.extract_eq_drop_take,Nat.add_sub_cancel_left]
   have p1:(part f.type us.toArray f.offset).run P w=.ok (.agg ((us.drop s).take sh1.length).toArray) w:=by rw[ho];simp[part,zgq hag,zcc hsz',ex]
   have p2:(part f.type vs.toArray f.offset).run P w=.ok (.agg ((vs.drop s).take sh1.length).toArray) w:=by rw[ho];simp[part,zgq hag,zcc hsz',ex]
   have hfo:P.fieldsOf f.type=fs:=by simp[Program.fieldsOf,hq]
   obtain⟨dd,rfl⟩:∃d',dd=d'+1:=⟨dd-1,by omega⟩;have in1:(Op.equalIn (dd+1+1) f.type (.agg ((us.drop s).take sh1.length).toArray) (.agg ((vs.drop s).take sh1.length).toArray)).run P w=.ok r1 w:=by
    rw[run_equalIn_agg w (dd+1) f.type _ _ (by rw[hfo];exact hq) (by simpa using hst),hfo];exact zhI d fs.toList 0 sh1 dd _ _ _ _ r1 hf1 (by omega) (hd2 hx) (hd2 hy) c1
   have ih:=zhI d l (s+sh1.length) sh2 (dd+1) _ _ us vs r2 hf' (by omega) (tl (n:=sh1.length) hx) (tl (n:=sh1.length) hy) c2;simp only[Op.eqFields,if_pos hn,Sem.run_bind,p1,p2,Result.andThen_ok,in1];cases r1
   ·simp
   ·simpa using ih
  ·cases hf
theorem ziR {t:TypeId}{e:EK}(he:(match zxN P t with|some n=>some (EK.ints n)|none=>(flatB P t).map EK.flat)=some e):(∃n,zxN P t=some n/\e=.ints n)∨(∃sh,flatB P t=some sh/\e=.flat sh):=by
 split at he
 ·rename_i n hn;cases he;exact .inl ⟨n,hn,rfl⟩
 ·simp only[Option.map_eq_some_iff]at he;obtain⟨sh,h1,rfl⟩:=he;exact .inr ⟨sh,h1,rfl⟩
theorem snd_bin (S:Sim L σ w)(F:FR w L σ fr a.tmps){op:BinOp}{t u:TypeId}{e:EK}{x y:Operand}{x' y':Opd}(he:ekOf P op t=some e)(hx:opd x=some x')(hy:opd y=some y')(ho:o.op=.binOp op t x y u)
  (h:zaQ P (.bin op e x' y') fr σ K):zaH P o a L σ w K:=by
 simp only[zaQ]at h;have hv:=zU F hx;have hu:=zU F hy;have fin:∀ {d r},(eqGuard op t x y (a.eval x) (a.eval y)).run P w=.ok () w->(binOp op t (a.eval x) (a.eval y)).run P w=.ok d w->RD w (Own L σ) r d->K (.d r) σ->zaH P o a L σ w K:=fun{d r} h0 h1 h2 h3=>
  .same S (r:=.d r) (v:=d) (by simp[execOp,ho,h0,h1]) (.d _ _ h2) h3
 generalize hX:ev fr x'=X at h hv;generalize hY:ev fr y'=Y at h hu;unfold zho at h;split at h
 ·rename_i k p k' q;have e1:=hv.int_inv;have e2:=hu.int_inv;obtain⟨d,hd⟩:=run_binInt (P:=P) (L:=L) (t:=t) (K:=K) (σ:=σ) (op:=op) (k:=k) (k':=k') (x:=p) (y:=q) (by simpa only[zho] using h);obtain⟨h1,r,h2,h3⟩:=hd w;exact fin (by rw[e1,eqGuard_at_int];simp) (by rw[e1,e2];exact h1) h2 h3
 ·rename_i p q;have e1:=hv.str_inv;have e2:=hu.str_inv;obtain⟨d,hd⟩:=run_binStr (P:=P) (L:=L) (t:=t) (K:=K) (σ:=σ) (op:=op) (x:=p) (y:=q) (by simpa only[zho] using h);obtain⟨h1,r,h2,h3⟩:=hd w;exact fin (by rw[e1,eqGuard_at_string];simp) (by rw[e1,e2];exact h1) h2 h3
 ·rename_i p q;have e1:=hv.bool_inv;have e2:=hu.bool_inv;have ht:P.underlying t=some .bool:=by
   unfold ekOf at he;cases op<;>simp only at he<;>first|(cases he;done)|(split at he<;>first|(cases he;done)|assumption|(rcases ziR he with⟨_,_,h⟩|⟨_,_,h⟩<;>cases h;done))
  split at h
  ·exact fin (d:=.bool (p==q)) (by rw[e1,eqGuard_at_bool];simp) (by rw[e1,e2];simp[bin_eqlB,bin_neqB,zqo ht]) (.bool _) h
  ·exact fin (d:=.bool (!(p==q))) (by rw[e1,eqGuard_at_bool];simp) (by rw[e1,e2];simp[bin_eqlB,bin_neqB,zqo ht]) (.bool _) h
  ·exact h.elim
 ·rename_i id off;obtain⟨e1,_⟩:=hv.box_inv;have e2:=hu.nilp_inv;have ⟨s,ht⟩:∃s,P.underlying t=some (.pointer s):=by
   unfold ekOf at he;cases op<;>simp only at he<;>first|(cases he;done)|(split at he<;>first|(cases he;done)|exact⟨_,by assumption⟩|(rcases ziR he with⟨_,_,h⟩|⟨_,_,h⟩<;>cases h;done))
  split at h
  ·exact fin (d:=.bool false) (by rw[e1,eqGuard_at_pointer];simp) (by rw[e1,e2];simp[ztR,ztQ,zqn ht]) (.bool _) h
  ·exact fin (d:=.bool true) (by rw[e1,eqGuard_at_pointer];simp) (by rw[e1,e2];simp[ztR,ztQ,zqn ht]) (.bool _) h
  ·exact h.elim
 ·rename_i id off;have e1:=hv.nilp_inv;obtain⟨e2,_⟩:=hu.box_inv;have ⟨s,ht⟩:∃s,P.underlying t=some (.pointer s):=by
   unfold ekOf at he;cases op<;>simp only at he<;>first|(cases he;done)|(split at he<;>first|(cases he;done)|exact⟨_,by assumption⟩|(rcases ziR he with⟨_,_,h⟩|⟨_,_,h⟩<;>cases h;done))
  split at h
  ·exact fin (d:=.bool false) (by rw[e1,eqGuard_at_pointer];simp) (by rw[e1,e2];simp[ztR,ztQ,ziB ht]) (.bool _) h
  ·exact fin (d:=.bool true) (by rw[e1,eqGuard_at_pointer];simp) (by rw[e1,e2];simp[ztR,ztQ,ziB ht]) (.bool _) h
  ·exact h.elim
 ·have e1:=hv.nilp_inv;have e2:=hu.nilp_inv;have ⟨s,ht⟩:∃s,P.underlying t=some (.pointer s):=by
   unfold ekOf at he;cases op<;>simp only at he<;>first|(cases he;done)|(split at he<;>first|(cases he;done)|exact⟨_,by assumption⟩|(rcases ziR he with⟨_,_,h⟩|⟨_,_,h⟩<;>cases h;done))
  split at h
  ·exact fin (d:=.bool true) (by rw[e1,eqGuard_at_pointer];simp) (by rw[e1,e2];simp[ztR,ztQ,ziB ht]) (.bool _) h
  ·exact fin (d:=.bool false) (by rw[e1,eqGuard_at_pointer];simp) (by rw[e1,e2];simp[ztR,ztQ,ziB ht]) (.bool _) h
  ·exact h.elim
 ·rename_i id;have hX1:a.eval x=.map (some (L id).a.block):=hv.map_inv.1;have hY1:=hu.nilmap_inv;have ⟨s,s',ht⟩:∃s s',P.underlying t=some (.map s s'):=by
   unfold ekOf at he;cases op<;>simp only at he<;>first|(cases he;done)|(split at he<;>first|(cases he;done)|exact⟨_,_,by assumption⟩|(rcases ziR he with⟨_,_,h⟩|⟨_,_,h⟩<;>cases h;done))
  split at h
  ·exact fin (d:=.bool false) (by rw[hX1,eqGuard_at_map];simp) (by rw[hX1,hY1];exact run_eql_map_nil w t s s' _ ht) (.bool _) h
  ·exact fin (d:=.bool true) (by rw[hX1,eqGuard_at_map];simp) (by rw[hX1,hY1];exact run_neq_map_nil w t s s' _ ht) (.bool _) h
  ·exact h.elim
 ·have hX1:=hv.nilmap_inv;have hY1:=hu.nilmap_inv;have ⟨s,s',ht⟩:∃s s',P.underlying t=some (.map s s'):=by
   unfold ekOf at he;cases op<;>simp only at he<;>first|(cases he;done)|(split at he<;>first|(cases he;done)|exact⟨_,_,by assumption⟩|(rcases ziR he with⟨_,_,h⟩|⟨_,_,h⟩<;>cases h;done))
  split at h
  ·exact fin (d:=.bool true) (by rw[hX1,eqGuard_at_map];simp) (by rw[hX1,hY1];exact run_eql_map_nil w t s s' _ ht) (.bool _) h
  ·exact fin (d:=.bool false) (by rw[hX1,eqGuard_at_map];simp) (by rw[hX1,hY1];exact run_neq_map_nil w t s s' _ ht) (.bool _) h
  ·exact h.elim
 ·rename_i n xs ys;obtain⟨us,e1,r1⟩:=hv.agg_inv;obtain⟨vs,e2,r2⟩:=hu.agg_inv;obtain⟨hn,h⟩:=h;have ht:zxN P t=some n:=by
   unfold ekOf at he;cases op<;>simp only at he<;>first|(cases he;done)|(split at he<;>first|(cases he;done)|(rcases ziR he with⟨_,h1,h⟩|⟨_,_,h⟩<;>cases h;exact h1))
  obtain⟨fs,inf,hu1,hu2,hu3,hu4,hu5,hu6,hu7⟩:=zpK ht;have hfo:P.fieldsOf t=fs:=by simp[Program.fieldsOf,hu1]
  split at h
  ·rename_i r hr;have hrun:(Op.equalIn 10000 t (.agg us.toArray) (.agg vs.toArray)).run P w=.ok r w:=by
    rw[run_equalIn_agg w 9999 t _ _ (by rw[hfo];exact hu1) hu2,hfo];exact znm 9998 fs.toList 0 xs ys us vs r (fun k f hk=>by have:=hu7 k f (by simpa using hk);exact⟨this.1,by rw[this.2.1];omega,this.2.2⟩) (by rw[hn,← hu4];simp) (by simpa using r1) (by simpa using r2) hr
   split at h
   ·exact fin (d:=.bool r) (by rw[e1,e2];exact run_eqGuard_agg w _ t x y _ _ hu3) (by rw[e1,e2,run_eql_struct,hrun];rfl) (.bool _) h
   ·exact fin (d:=.bool (!r)) (by rw[e1,e2];exact run_eqGuard_agg w _ t x y _ _ hu3) (by rw[e1,e2,run_neq_struct,hrun];rfl) (.bool _) h
   ·exact h.elim
  ·exact h.elim
 ·rename_i sh xs ys;obtain⟨us,e1,r1⟩:=hv.agg_inv;obtain⟨vs,e2,r2⟩:=hu.agg_inv;have ht:flatB P t=some sh:=by
   unfold ekOf at he;cases op<;>simp only at he<;>first|(cases he;done)|(split at he<;>first|(cases he;done)|(rcases ziR he with⟨_,_,h⟩|⟨_,h1,h⟩<;>cases h;exact h1))
  unfold flatB at ht;split at ht;rotate_left
  ·cases ht
  rename_i fs hu1;split at ht
  ·cases ht
  rename_i hg;have hu2:P.stoodInHeld t=false:=by cases hh:P.stoodInHeld t<;>simp_all
  have hu3:P.eqGuardType P.depth t=false:=by cases hh:P.eqGuardType P.depth t<;>simp_all
  have hfo:P.fieldsOf t=fs:=by simp[Program.fieldsOf,hu1]
  split at h
  ·rename_i r hr;have hrun:(Op.equalIn 10000 t (.agg us.toArray) (.agg vs.toArray)).run P w=.ok r w:=by
    rw[run_equalIn_agg w 9999 t _ _ (by rw[hfo];exact hu1) hu2,hfo];exact zhI 64 fs.toList 0 sh 9998 xs ys us vs r ht (by omega) (by simpa using r1) (by simpa using r2) hr
   split at h
   ·exact fin (d:=.bool r) (by rw[e1,e2];exact run_eqGuard_agg w _ t x y _ _ hu3) (by rw[e1,e2,run_eql_struct,hrun];rfl) (.bool _) h
   ·exact fin (d:=.bool (!r)) (by rw[e1,e2];exact run_eqGuard_agg w _ t x y _ _ hu3) (by rw[e1,e2,run_neq_struct,hrun];rfl) (.bool _) h
   ·exact h.elim
  ·exact h.elim
 ·exact h.elim
end
section
variable {P:Program} {o:Oper} {i:I} {fr:zW} {σ:List AObj} {K:KT} {L:Nat->Loc} {w:World} {a:Act}
theorem zrD (S:Sim L σ w)(o:Obj):zdx L σ w L σ (w.alloc o)/\Sim L σ (w.alloc o):=by
 have s:zdx L σ w L σ (w.alloc o):=⟨rfl,rfl,rfl,by simp,fun b hb _=>RowKit.Below.heap_alloc w o b hb,fun b c hb _=>World.cell?_alloc_lt w o _ hb,fun b c hb _=>frozen?_alloc_lt w o _ hb,fun _ _ _ h=>h,Nat.le_refl _,fun _ _ h=>.refl h⟩;exact⟨s,⟨fun id x hx=>(S.obj id x hx).keep s (fun b c hf=>⟨World.cell?_alloc_lt w o _ (hf.lt (S.obj id x hx)),frozen?_alloc_lt w o _ (hf.lt (S.obj id x hx))⟩) (fun b hb=>RowKit.Below.heap_alloc w o b ((hb 0).lt (S.obj id x hx))),S.apart⟩⟩
theorem cell?_alloc_any (w:World)(c:Array Value)(t:TypeId)(f:Nat × Nat)(i:Nat):(w.alloc (.cells c t f)).cell? ⟨w.heap.size,i,none⟩=c[i]?:=by
 show(match (w.heap.push (.cells c t f))[w.heap.size]? with|some (.cells c _ _)=>if (none:Option Nat).isSome then none else c[i]? | _=>none)=_;simp
theorem RD.of_block {O:Nat->Nat->Prop}{es:List (List D)}{b cap sz:Nat}{off:Nat}(hcap:es.length<=cap)(hsz:∀e∈es,e.length=sz)
  (h:∀(i:Nat) e (j:Nat) d,es[i]? = some e->e[j]? = some d->∃v,w.cell? ⟨b,off+(i*sz+j),none⟩=some v/\¬O b (off+(i*sz+j))/\RD w O d v):RD w O (.slice es) (.slice (some ⟨b,off,none⟩) es.length cap):=by
 by_cases he:es=[]
 ·subst he;exact .empty _ _ (fun e=>by cases e)
 ·refine .slice es b off cap sz (fun k=>(w.cell? ⟨b,off+k,none⟩).getD undef) he hcap hsz (fun i e j d hi hj=>?_) (fun i e j d hi hj=>?_)
  ·obtain⟨v,h1,h2,_⟩:=h i e j d hi hj;exact⟨by rw[h1];rfl,h2⟩
  ·obtain⟨v,h1,_,h3⟩:=h i e j d hi hj;rw[h1];exact h3
theorem snd_conv (S:Sim L σ w)(F:FR w L σ fr a.tmps){src dst:TypeId}{x:Operand}{i:I}(ho:o.op=.convert src dst x)(hc:zcC P o=some i)(h:zaQ P i fr σ K):zaH P o a L σ w K:=by
 unfold zcC at hc;rw[ho]at hc;simp only at hc;split at hc
 ·rename_i k0 k hsrc hdst;simp only[Option.bind_eq_bind,Option.bind_eq_some_iff,Option.pure_def,Option.some.injEq]at hc;obtain⟨y,hx,rfl⟩:=hc;simp only[zaQ,zaw]at h;have hv:=zU F hx;split at h
  ·rename_i k1 n hid;rw[hid]at hv;have hv:=hv.int_inv;exact .same S (r:=.d (.int k (k.wrap n))) (v:=.int k (k.wrap n)) (by simp[execOp,ho,hv,convert,run_underlying hsrc,run_underlying hdst,Conv.intToInt]) (.d _ _ (.int _ _)) h
  ·exact h.elim
 ·rename_i e hsrc hdst;split at hc
  ·rename_i he;simp only[Option.bind_eq_bind,Option.bind_eq_some_iff,Option.pure_def,Option.some.injEq]at hc;obtain⟨y,hx,rfl⟩:=hc;simp only[zaQ,zaw]at h;have hv:=zU F hx;split at h
   ·rename_i s hid;rw[hid]at hv;have hv:=hv.str_inv;have hrun:=run_bytes_of_string (P:=P) w src dst e ⟨s.toArray⟩ hsrc hdst he;obtain⟨S1,s1⟩:=S.drew (w.drawn+1);obtain⟨s2,S2⟩:=zrD S1 (.cells (bytesRow ⟨s.toArray⟩ (grownCap w (ByteArray.mk s.toArray).size 0 e)) e ((bytesRow ⟨s.toArray⟩ (grownCap w (ByteArray.mk s.toArray).size 0 e)).size,(bytesRow ⟨s.toArray⟩ (grownCap w (ByteArray.mk s.toArray).size 0 e)).size+1));refine⟨.d (.slice (s.map zch)),_,L,σ,_,.inl (by simp[execOp,ho,hv,hrun];rfl),s1.trans s2,S2,.d _ _ ?_,h⟩;have hl:(ByteArray.mk s.toArray).size=(s.map zch).length:=by simp[ByteArray.size]
    rw[hl];refine RD.of_block (sz:=1) ?_ (by intro e he;simp at he;obtain⟨b,_,rfl⟩:=he;rfl) (fun i e' j d hi hj=>?_)
    ·unfold grownCap;simp[Question.cut]
    ·simp only[List.getElem?_map,Option.map_eq_some_iff]at hi;obtain⟨b,hb,rfl⟩:=hi;have hj0:j=0:=by have:=zo hj;simp[zch]at this;exact this
     subst hj0;simp[zch]at hj;subst hj;refine⟨.int .u8 b.toNat,?_,?_,.int _ _⟩
     ·have:=cell?_alloc_any { w with drawn:=w.drawn+1 } (bytesRow ⟨s.toArray⟩ (grownCap w (s.map zch).length 0 e)) e ((bytesRow ⟨s.toArray⟩ (grownCap w (s.map zch).length 0 e)).size,(bytesRow ⟨s.toArray⟩ (grownCap w (s.map zch).length 0 e)).size+1) i;simp only[Nat.zero_add,Nat.mul_one,Nat.add_zero];refine this.trans ?_;have hil:=zo hb;have hb':s[i]=b:=by rw[List.getElem?_eq_getElem hil]at hb;exact Option.some.inj hb
      simp[bytesRow,Array.getElem?_append,hil,hb']
     ·intro hown;have:=S.own_lt hown;exact Nat.lt_irrefl _ this
   ·exact h.elim
  ·cases hc
 ·rename_i e hsrc hdst;split at hc
  ·rename_i he;simp only[Option.bind_eq_bind,Option.bind_eq_some_iff,Option.pure_def,Option.some.injEq]at hc;obtain⟨y,hx,rfl⟩:=hc;simp only[zaQ,zaw]at h;have hv:=zU F hx;split at h
   ·rename_i es hes;split at h
    ·rename_i s hs;have hrd:=hv.esOf_inv hes;refine .same S (r:=.d (.str s)) (v:=.string ⟨s.toArray⟩) ?_ (.d _ _ (.str _)) h;have hby:∀(es:List (List D)) (s:List UInt8),zrC es=some s->es.length=s.length/\∀(i:Nat) b,s[i]? = some b->∃n:Int,es[i]? = some [D.int .u8 n]/\b=UInt8.ofNat n.toNat:=by
      intro es;induction es with
      | nil=>intro s h;simp[zrC]at h;subst h;simp
      | cons e es ih=>
       intro s h
       unfold zrC at h
       split at h
       ·rename_i heq;cases heq
       ·rename_i n r heq
        cases heq
        simp only[Option.map_eq_some_iff]at h
        obtain⟨s',h1,rfl⟩:=h
        obtain⟨h2,h3⟩:=ih s' h1
        refine⟨by simp[h2],fun i b hb=>?_⟩
        cases i with
        | zero=>simp at hb;subst hb;exact⟨n,rfl,rfl⟩
        | succ i=>simp at hb;exact h3 i b hb
       ·cases h
     obtain⟨hl,hall⟩:=hby es s hs;generalize hX:a.eval x=X at hrd;cases hrd with
     | empty b cap hb=>
      have:s=[]:=by simpa using hl.symm
      subst this
      cases b with
      | none=>simp only[execOp,ho];rw[hX];simp[run_convert_bytes_nil w src e hsrc he 0 cap dst hdst];rfl
      | some b=>
       simp only[execOp,ho];rw[hX]
       have:=run_convert_bytes_back (P:=P) w src dst e b cap [] hsrc he hdst (by simp)
       rw[List.length_nil]at this
       simp[this]
     | slice es b off cap sz vs h0 h1 h2 h3 h4=>
      simp only[execOp,ho];rw[hX]
      have:=run_convert_bytes_arg (P:=P) w src e hsrc he b off es.length cap (es.map fun e=>match e with|[.int _ n]=>n|_=>0) (by simp) (fun i hi=>by
       have hsl:i<s.length:=by omega
       obtain⟨n,hn,_⟩:=hall i s[i] (by simp[hsl]);have hsz:sz=1:=by
        have:=h2 [.int .u8 n] (List.mem_of_getElem? hn);simpa using this.symm
       subst hsz;have hc:=(h3 i _ 0 (.int .u8 n) hn rfl).1;have hr:=h4 i _ 0 (.int .u8 n) hn rfl;simp only[Nat.mul_one,Nat.add_zero]at hc hr;rw[hc];have hq:=RV.int_inv (L:=L) (σ:=σ) (.d _ _ hr);rw[hq];simp[List.getD,hn]) dst hdst
      simp[this]
      congr 2
      unfold strOfNums
      congr 1
      apply congrArg List.toArray
      apply List.ext_getElem?
      intro i
      by_cases hi:i<s.length
      ·obtain⟨n,hn,hb⟩:=hall i s[i] (by simp[hi])
       simp[hn,hi,hb]
      ·simp[List.getElem?_eq_none (show s.length<=i by omega),List.getElem?_eq_none (show es.length<=i by omega)]
    ·exact h.elim
   ·exact h.elim
  ·cases hc
 ·rename_i hsrc hdst;simp only[Option.bind_eq_bind,Option.bind_eq_some_iff,Option.pure_def,Option.some.injEq]at hc;obtain⟨y,hx,rfl⟩:=hc;simp only[zaQ,zaw]at h;have hv:=zU F hx;split at h
  ·rename_i s hid;rw[hid]at hv;have hv:=hv.str_inv;exact .same S (r:=.d (.str s)) (v:=.string ⟨s.toArray⟩) (by simp[execOp,ho,hv,convert,run_underlying hsrc,run_underlying hdst]) (.d _ _ (.str _)) h
  ·exact h.elim
 ·cases hc
end
end Go.AW
