/- What an operation does, against the model: slices of slices, addresses of fields and elements, parts, lengths. -/
import Derived.Test.YtdgcepphjnoalaaGreatAwBase
import Derived.Laws.Tables
import Derived.Laws.RangeAny
import Derived.Laws.RangeString
import Derived.Laws.Append
import Derived.Laws.AppendOwn
set_option linter.all false
namespace Go.AW
section
variable {P:Program} {o:Oper} {i:I} {fr:zW} {σ:List AObj} {K:KT} {L:Nat->Loc} {w:World} {a:Act}
def BV (v:Option Value) (dflt:Nat) (n:Int):Prop:=(v=none/\n=dflt)∨∃k,v=some (.int k n)
theorem zeM (F:FR w L σ fr a.tmps){x:Option Operand}{y:Option Opd}(hx:zyz opd x=some y){dflt:Nat}{n:Int}(h:bnd (y.map (ev fr)) dflt=some n):BV (x.map a.eval) dflt n:=by
 cases x with
 | none=>simp[zyz]at hx;subst hx;simp[bnd]at h;exact .inl ⟨rfl,h.symm⟩
 | some x=>
  simp only[zyz,Option.map_eq_some_iff]at hx
  obtain⟨y,hy,rfl⟩:=hx
  obtain⟨k,hk⟩:=(zU F hy).intV_inv h
  exact .inr ⟨k,by simp[hk]⟩
theorem zkc (isS:Bool)(len cap:Nat){lo hi:Option Value}{l h:Int}(hl:BV lo 0 l)(hh:BV hi len h)(h0:0<=l)(h1:l<=h)(h2:h<=cap)(w:World) :
  (Instr.sliceBounds isS len cap lo hi none).run P w=.ok (l.toNat,h.toNat,cap) w:=by
 have eh:(h.toNat:Int)=h:=Int.toNat_of_nonneg (by omega);have h5:0<=h:=by omega
 rcases hl with⟨rfl,e⟩|⟨k,rfl⟩<;>rcases hh with⟨rfl,e'⟩|⟨k',rfl⟩
 ·simp[Instr.sliceBounds];omega
 ·simp[Instr.sliceBounds,run_sliceBound,h2,h5];omega
 ·have:=run_sliceBound (P:=P) w k l len (if (none:Option Value).isSome then .slice3C else .sliceB) h0 (by omega);simp at this;simp[Instr.sliceBounds,this];omega
 ·have:=run_sliceBound (P:=P) w k l h.toNat (if (none:Option Value).isSome then .slice3C else .sliceB) h0 (by omega);simp at this;simp[Instr.sliceBounds,run_sliceBound,h2,h5,this]
theorem run_bounds3 (len cap:Nat){lo:Option Value}{l h:Int}{k k':IntKind}(hl:BV lo 0 l)(h0:0<=l)(h1:l<=h)(h2:h<=cap)(w:World) :
  (Instr.sliceBounds true len cap lo (some (.int k h)) (some (.int k' h))).run P w=.ok (l.toNat,h.toNat,h.toNat) w:=by
 have eh:(h.toNat:Int)=h:=Int.toNat_of_nonneg (by omega);have h5:0<=h:=by omega
 rcases hl with⟨rfl,e⟩|⟨k,rfl⟩ <;>
  simp[Instr.sliceBounds,run_sliceBound,h0,h1,h2,h5,eh]<;>omega
theorem RD.sub {O:Nat->Nat->Prop}{es:List (List D)}{b:Option Addr}{n cap:Nat}(h:RD w O (.slice es) (.slice b n cap)){sz l k m:Nat}(hsz:∀e∈es,e.length=sz)(h1:l<=k)(h2:k<=es.length)(h3:k<=m)(h4:m<=cap) :
  RD w O (.slice ((es.take k).drop l)) (.slice (if m=l then b else b.map (·.add (l*sz))) (k-l) (m-l)):=by
 have hlen:((es.take k).drop l).length=k-l:=by simp;omega
 by_cases hkl:k=l
 ·have:(es.take k).drop l=[]:=List.eq_nil_of_length_eq_zero (by omega);rw[this,show k-l=0 by omega];refine .empty _ _ fun e=>?_;cases h with
  | empty b cap hb=>
   have:b=none:=by split at e<;>simpa using e
   have:=hb this;omega
  | slice es b off cap sz vs h0 h1 h2 h3 h4=>split at e<;>simp at e
 ·cases h with
  | empty b cap hb=>simp at h2;omega
  | slice es b off cap sz' vs g0 g1 g2 g3 g4=>
   have:sz'=sz:=by
    cases es with
    | nil=>exact absurd rfl g0
    | cons e es=>rw[← g2 e (by simp),hsz e (by simp)]
   subst this
   rw[if_neg (by omega)]
   simp only[Option.map_some,zcI]
   rw[← hlen]
   refine RD.of_block (sz:=sz') (by rw[hlen];omega) (fun e he=>hsz e (List.mem_of_mem_take (List.mem_of_mem_drop he))) fun i e j d hi hj=>?_
   rw[List.getElem?_drop,List.getElem?_take]at hi
   split at hi
   ·obtain⟨c1,c2⟩:=g3 (l+i) e j d hi hj
    have c3:=g4 (l+i) e j d hi hj
    have e1:off+l*sz'+(i*sz'+j)=off+((l+i)*sz'+j):=by rw[Nat.add_mul];omega
    rw[e1]
    exact⟨_,c1,c2,c3⟩
   ·cases hi
theorem snd_slc (S:Sim L σ w)(F:FR w L σ fr a.tmps){t:TypeId}{x:Operand}{lo hi mx:Option Operand}{i:I}(ho:o.op=.slice t x lo hi mx)(hc:zcC P o=some i)(h:zaQ P i fr σ K):zaH P o a L σ w K:=by
 unfold zcC at hc;rw[ho]at hc;simp only at hc;split at hc
 ·rename_i ht;simp only[Option.bind_eq_bind,Option.bind_eq_some_iff,Option.pure_def,Option.some.injEq]at hc;obtain⟨y,hx,lo',hlo,hi',hhi,mx',hmx,rfl⟩:=hc;simp only[zaQ,zgy,zc,zaV,zN,zbS,zcl]at h;have hv:=zU F hx;split at h
  ·rename_i s hs;rw[hs]at hv;have hv:=hv.str_inv;split at h
   ·rename_i l k hl hk hmx0;obtain⟨h0,h1,h2,hK⟩:=h;have hmx1:mx'=none:=by simpa using hmx0
    subst hmx1;have hm:mx=none:=by cases mx with|none=>rfl|some m=>simp[zyz,Option.map_eq_some_iff]at hmx
    subst hm;have hsz:(ByteArray.mk s.toArray).size=s.length:=by simp[ByteArray.size]
    have hb:=zkc (P:=P) false s.length s.length (zeM F hlo hl) (zeM F hhi hk) h0 h1 h2 w;refine .same S (r:=.d (.str ((s.take k.toNat).drop l.toNat))) (v:=.string ⟨((s.take k.toNat).drop l.toNat).toArray⟩) ?_ (.d _ _ (.str _)) hK;have hex:(ByteArray.mk s.toArray).extract l.toNat k.toNat=⟨((s.take k.toNat).drop l.toNat).toArray⟩:=by
     apply ByteArray.ext;rw[ByteArray.data_extract];apply Array.ext';simp[List.drop_take]
    simp[execOp,ho,hv,Instr.sliceAt,run_underlying ht,Instr.slice,hsz,hb,hex]
   ·exact h.elim
  ·exact h.elim
 ·rename_i e ht;simp only[Option.bind_eq_bind,Option.bind_eq_some_iff,Option.pure_def,Option.some.injEq]at hc;obtain⟨sz,hsz,y,hx,lo',hlo,hi',hhi,mx',hmx,rfl⟩:=hc;simp only[zaQ,zgy,zc,zaV,zN,zbS,zcl]at h;have hv:=zU F hx;split at h
  ·rename_i es hes;have hrd:=hv.esOf_inv hes;obtain⟨b,cap,hX,hcap,hnil⟩:=hrd.len;rw[hX]at hrd;split at h
   ·rename_i l k hl hk;split at h
    ·rename_i hmx0;have hmx1:mx'=none:=by simpa using hmx0
     subst hmx1;have hm:mx=none:=by cases mx with|none=>rfl|some m=>simp[zyz,Option.map_eq_some_iff]at hmx
     subst hm;split at h
     ·rename_i hx0;obtain⟨h0,h1,h2,hK⟩:=h;rw[hx0]at hes hv;cases hes;have hb:=zkc (P:=P) true 0 cap (zeM F hlo hl) (zeM F hhi hk) h0 h1 (by omega) w;have hl0:l=0:=by omega
      have hk0:k=0:=by omega
      subst hl0;subst hk0;generalize he0:([]:List (List D))=es0 at hv;have hfun:∀v,RV w L σ (.exact es0) v->∃b2,v=.slice b2 0 0:=fun v hv=>by
       cases hv with|exact _ b2 _=>subst he0;exact⟨b2,rfl⟩
      obtain⟨b2,hX2⟩:=hfun _ hv;subst he0;rw[hX2]at hX hv;cases hX;refine .same S (r:=.exact []) (v:=.slice b 0 0) ?_ hv hK;simp only[Int.toNat_zero]at hb;simp[execOp,ho,hX2,Instr.sliceAt,run_underlying ht,Instr.slice,zcc hsz,hb]
     ·obtain⟨h0,h1,h2,h3,hK⟩:=h;have hb:=zkc (P:=P) true es.length cap (zeM F hlo hl) (zeM F hhi hk) h0 h1 (by omega) w;refine .same S (r:=.d (.slice ((es.take k.toNat).drop l.toNat))) (v:=.slice (if cap=l.toNat then b else b.map (·.add (l.toNat*sz))) (k.toNat-l.toNat) (cap-l.toNat)) ?_ (.d _ _ (hrd.sub h3 (by omega) (by omega) (by omega) (Nat.le_refl _))) hK;simp[execOp,ho,hX,Instr.sliceAt,run_underlying ht,Instr.slice,hb,zcc hsz]
    ·rename_i m hmx0;obtain⟨hs,hm,h0,h1,h2,h3,hK⟩:=h;obtain⟨m1,hm1,rfl⟩:=Option.map_eq_some_iff.1 hmx0;subst hm1;cases mx with
     | none=>simp[zyz]at hmx
     | some mx=>
     cases hi with
     | none=>simp[zyz]at hhi;subst hhi;simp at hs
     | some hi=>
     simp only[zyz,Option.map_eq_some_iff,Option.some.injEq,exists_eq_right]at hmx hhi;have hm':=hmx;obtain⟨q,hq,rfl⟩:=hhi;obtain⟨k1,e1⟩:=(zU F hm').intV_inv hm;obtain⟨k2,e2⟩:=(zU F hq).intV_inv (by simpa [bnd] using hk);have hb:=run_bounds3 (P:=P) es.length cap (k:=k2) (k':=k1) (zeM F hlo hl) h0 h1 (by omega:k<=cap) w;have hr:=hrd.sub (m:=k.toNat) h3 (l:=l.toNat) (k:=k.toNat) (by omega) (by omega) (Nat.le_refl _) (by omega);have hlen:((es.take k.toNat).drop l.toNat).length=k.toNat-l.toNat:=by simp;omega
     refine .same S (r:=.exact ((es.take k.toNat).drop l.toNat)) (v:=.slice (if k.toNat=l.toNat then b else b.map (·.add (l.toNat*sz))) (k.toNat-l.toNat) (k.toNat-l.toNat)) ?_ ?_ hK
     ·simp[execOp,ho,hX,Instr.sliceAt,run_underlying ht,Instr.slice,hb,zcc hsz,e1,e2]
     ·rw[← hlen]at hr ⊢;exact .exact _ _ hr
   ·exact h.elim
  ·split at h
   ·rename_i id off len cap s hid;rw[hid]at hv;obtain⟨hX,hfix,hlc⟩:=hv.bsl_inv;split at h
    ·rename_i l k hl hk hmx0;obtain⟨rfl,h0,h1,h2,h3,hK⟩:=h;have hmx1:mx'=none:=by simpa using hmx0
     subst hmx1;have hm:mx=none:=by cases mx with|none=>rfl|some m=>simp[zyz,Option.map_eq_some_iff]at hmx
     subst hm;have hb:=zkc (P:=P) true len cap (zeM F hlo hl) (zeM F hhi hk) h0 h1 (by omega) w;refine .same S (r:=.bsl id (off+l.toNat*s) (k.toNat-l.toNat) (cap-l.toNat) s) (v:=.slice (some ⟨(L id).a.block,(L id).a.off+(off+l.toNat*s),none⟩) (k.toNat-l.toNat) (cap-l.toNat)) ?_ (.bsl _ _ _ _ _ hfix (by omega)) hK;simp[execOp,ho,hX,Instr.sliceAt,run_underlying ht,Instr.slice,hb,zcc hsz,show cap≠l.toNat by omega,zcI,Nat.add_assoc]
    ·exact h.elim
   ·rename_i tt gg s lo0 hi0 hid;rw[hid]at hv;obtain⟨b0,c0,hX,hrow,hlh,hlc,hn0,hn1,hg,hcur⟩:=hv.rsl_inv;split at h
    ·rename_i l k hl hk hmx0;obtain⟨rfl,h0,h1,h2,hK⟩:=h;have hmx1:mx'=none:=by simpa using hmx0
     subst hmx1;have hm:mx=none:=by cases mx with|none=>rfl|some m=>simp[zyz,Option.map_eq_some_iff]at hmx
     subst hm;have hb:=zkc (P:=P) true (hi0-lo0) c0 (zeM F hlo hl) (zeM F hhi hk) h0 h1 (by omega) w;have hlk:l.toNat<=k.toNat:=by omega
     have hkn:k.toNat<=hi0-lo0:=by omega
     refine .same S (r:=.rsl tt gg s (lo0+l.toNat) (lo0+k.toNat)) (v:=.slice (if c0=l.toNat then b0 else b0.map (·.add (l.toNat*s))) (k.toNat-l.toNat) (c0-l.toNat)) ?_ ?_ hK
     ·simp[execOp,ho,hX,Instr.sliceAt,run_underlying ht,Instr.slice,hb,zcc hsz]
     ·have e1:k.toNat-l.toNat=(lo0+k.toNat)-(lo0+l.toNat):=by omega
      rw[e1];refine .rsl tt gg s _ _ _ _ hrow hg (by omega) (by omega) (fun e=>?_) (fun hp=>?_) (fun sz' cs e=>?_)
      ·have:b0=none:=by split at e<;>simpa using e
       have:=hn0 this;omega
      ·rw[if_neg (by omega)];obtain⟨b1,o1,hb1⟩:=hn1 (by omega);exact⟨b1,o1+l.toNat*s,by rw[hb1];simp[zcI]⟩
      ·obtain⟨q1,q2,q3,q4,q5⟩:=hcur sz' cs e;have hmul:(lo0+k.toNat)*s<=hi0*s:=Nat.mul_le_mul_right _ (by omega);refine⟨q1,by omega,by omega,by omega,fun hlt=>?_⟩;rw[if_neg (by omega),q5 (by omega)];simp[zcI,Nat.add_mul,Nat.add_assoc]
    ·exact h.elim
   ·exact h.elim
 ·rename_i n e ht;simp only[Option.bind_eq_bind,Option.bind_eq_some_iff,Option.pure_def,Option.some.injEq]at hc;obtain⟨sz,hsz,y,hx,lo',hlo,hi',hhi,mx',hmx,rfl⟩:=hc;simp only[zaQ,zgy,zc,zaV,zN,zbS,zcl]at h;have hv:=zU F hx;split at h
  ·rename_i id off hid;rw[hid]at hv;obtain⟨hX,hfix⟩:=hv.box_inv;split at h
   ·rename_i l k hl hk hmx0;obtain⟨h0,h1,h2,h3,hK⟩:=h;have hmx1:mx'=none:=by simpa using hmx0
    subst hmx1;have hm:mx=none:=by cases mx with|none=>rfl|some m=>simp[zyz,Option.map_eq_some_iff]at hmx
    subst hm;have hb:=zkc (P:=P) false n n (zeM F hlo hl) (zeM F hhi hk) h0 h1 h2 w;refine .same S (r:=.bsl id (off+l.toNat*sz) (k.toNat-l.toNat) (n-l.toNat) sz) (v:=.slice (some ⟨(L id).a.block,(L id).a.off+(off+l.toNat*sz),none⟩) (k.toNat-l.toNat) (n-l.toNat)) ?_ (.bsl _ _ _ _ _ hfix (by omega)) hK;simp[execOp,ho,hX,Instr.sliceAt,Instr.sureAddr,run_underlying ht,hb,zcc hsz,show n≠l.toNat by omega,zcI,Nat.add_assoc]
   ·exact h.elim
  ·exact h.elim
 ·cases hc
theorem snd_faddr (S:Sim L σ w)(F:FR w L σ fr a.tmps){t:TypeId}{x:Operand}{k:Nat}{i:I}(ho:o.op=.fieldAddr t x k)(hc:zcC P o=some i)(h:zaQ P i fr σ K):zaH P o a L σ w K:=by
 unfold zcC at hc;rw[ho]at hc;simp only at hc;split at hc
 ·rename_i fs ht;simp only[Option.bind_eq_bind,Option.bind_eq_some_iff]at hc;obtain⟨f,hf,s,hs,hc⟩:=hc;split at hc
  ·cases hc
  ·rename_i hs0;simp only[Option.bind_eq_some_iff,Option.pure_def,Option.some.injEq]at hc;obtain⟨y,hx,rfl⟩:=hc;simp only[zaQ,zgy,zc,zaV,zN,zbS,zcl]at h;have hv:=zU F hx;have hrun:∀b off,a.eval x=.pointer (some ⟨b,off,none⟩)->(execOp a.eval o).run P w=.ok (.value (.pointer (some ⟨b,off+f.offset,none⟩))) w:=fun b off e=>by
    simp[execOp,ho,e,Instr.fieldAt,run_underlying ht,hf,Instr.sureAddr,fieldPlace,zcc hs,hs0,zcI]
   split at h
   ·rename_i id off hid;rw[hid]at hv;obtain⟨hX,hfix⟩:=hv.box_inv;exact .same S (r:=.box id (off+f.offset)) (v:=.pointer (some ⟨(L id).a.block,(L id).a.off+(off+f.offset),none⟩)) (by rw[hrun _ _ hX,Nat.add_assoc]) (.box _ _ hfix) h
   ·rename_i cs hid;rw[hid]at hv;obtain⟨b,off,hX,hcs⟩:=hv.vp_inv;refine .same S (r:=.vp (cs.drop f.offset)) (v:=.pointer (some ⟨b,off+f.offset,none⟩)) (hrun _ _ hX) (.vp _ _ _ fun j d hj=>?_) h;rw[List.getElem?_drop]at hj;rw[Nat.add_assoc];exact hcs _ d hj
   ·rename_i tt gg off hid;rw[hid]at hv;obtain⟨b0,o0,hX,hrow,hg,hcur⟩:=hv.rpt_inv;refine .same S (r:=.rpt tt gg (off+f.offset)) (v:=.pointer (some ⟨b0,o0+f.offset,none⟩)) (hrun _ _ hX) (.rpt _ _ _ _ _ hrow hg fun sz' cs e=>?_) h;obtain⟨q1,q2⟩:=hcur sz' cs e;exact⟨q1,by omega⟩
   ·exact h.elim
 ·cases hc
theorem snd_field (S:Sim L σ w)(F:FR w L σ fr a.tmps){t:TypeId}{x:Operand}{k:Nat}{i:I}(ho:o.op=.field t x k)(hc:zcC P o=some i)(h:zaQ P i fr σ K):zaH P o a L σ w K:=by
 unfold zcC at hc;rw[ho]at hc;simp only at hc;split at hc
 ·rename_i fs ht;simp only[Option.bind_eq_bind,Option.bind_eq_some_iff,Option.pure_def,Option.some.injEq]at hc;obtain⟨f,hf,g,hg,n,hn,y,hx,rfl⟩:=hc;simp only[zaQ,zgy,zc,zaV,zN,zbS,zcl]at h;have hv:=zU F hx;split at h
  ·rename_i cs hid;rw[hid]at hv;obtain⟨vs,hX,h1,h2⟩:=hv.agg_inv;cases g
   ·simp only[Bool.false_eq_true,if_false]at h;split at h
    ·rename_i c hcs;have hl:=zo hcs;have hu:vs[f.offset]? = some (vs[f.offset]'(by omega)):=List.getElem?_eq_getElem _;exact .same S (r:=c) (v:=vs[f.offset]'(by omega)) (by simp[execOp,ho,hX,Instr.field,run_underlying ht,hf,asAgg,part,zgq hg,hu]) (h2 _ c _ hcs hu) h
    ·exact h.elim
   ·simp only[if_true]at h;obtain⟨hle,hK⟩:=h;have e1:vs.toArray.extract f.offset (f.offset+n)=((vs.drop f.offset).take n).toArray:=by apply Array.ext';simp[List.drop_take]
    refine .same S (r:=.agg ((cs.drop f.offset).take n)) (v:=.agg ((vs.drop f.offset).take n).toArray) (by simp[execOp,ho,hX,Instr.field,run_underlying ht,hf,asAgg,part,zgq hg,zcc hn];try(simpa using e1)) (.agg _ _ (by simp[h1]) fun j c v hc hv=>?_) hK;rw[List.getElem?_take]at hc hv;split at hc
    ·rename_i hj;rw[if_pos hj]at hv;rw[List.getElem?_drop]at hc hv;exact h2 _ c v hc hv
    ·cases hc
  ·exact h.elim
 ·cases hc
theorem snd_idxA (S:Sim L σ w)(F:FR w L σ fr a.tmps){t:TypeId}{x y:Operand}{i:I}(ho:o.op=.index t x y)(hc:zcC P o=some i)(h:zaQ P i fr σ K):zaH P o a L σ w K:=by
 unfold zcC at hc;rw[ho]at hc;simp only at hc;split at hc
 ·rename_i ht;simp only[Option.bind_eq_bind,Option.bind_eq_some_iff,Option.pure_def,Option.some.injEq]at hc;obtain⟨x',hx,y',hy,rfl⟩:=hc;simp only[zaQ,zgy,zc,zaV,zN,zbS,zcl]at h;have hv:=zU F hx;split at h
  ·rename_i s k hid hk;rw[hid]at hv;have hX:=hv.str_inv;obtain⟨q,hY⟩:=(zU F hy).intV_inv hk;split at h
   ·rename_i b hb;have hl:=zo hb;have hget:(ByteArray.mk s.toArray)[k.toNat]? = some b:=by
     rw[ByteArray.getElem?_lt' _ _ (by simpa [ByteArray.size] using hl)];rw[List.getElem?_eq_getElem hl]at hb;have:=Option.some.inj hb;rw[← this];rfl
    exact .same S (r:=.d (.int .u8 b.toNat)) (v:=.int .u8 b.toNat) (by simp[execOp,ho,hX,hY,Instr.index,asIntOf,run_underlying ht,h.1,hget]) (.d _ _ (.int _ _)) h.2
   ·exact h.elim
  ·exact h.elim
 ·rename_i n e ht;simp only[Option.bind_eq_bind,Option.bind_eq_some_iff,Option.pure_def,Option.some.injEq]at hc;obtain⟨g,hg,sz,hsz,x',hx,y',hy,rfl⟩:=hc;simp only[zaQ,zgy,zc,zaV,zN,zbS,zcl]at h;have hv:=zU F hx;split at h
  ·rename_i cs k hid hk;rw[hid]at hv;obtain⟨vs,hX,h1,h2⟩:=hv.agg_inv;obtain⟨q,hY⟩:=(zU F hy).intV_inv hk;obtain⟨g0,g1,h⟩:=h;cases g
   ·simp only[Bool.false_eq_true,if_false]at h;split at h
    ·rename_i c hcs;have hl:=zo hcs;have hu:vs[k.toNat*sz]? = some (vs[k.toNat*sz]'(by omega)):=List.getElem?_eq_getElem _;exact .same S (r:=c) (v:=vs[k.toNat*sz]'(by omega)) (by simp[execOp,ho,hX,hY,Instr.index,asIntOf,run_underlying ht,g0,g1,part,zgq hg,zcc hsz,hu]) (h2 _ c _ hcs hu) h
    ·exact h.elim
   ·simp only[if_true]at h;obtain⟨hle,hK⟩:=h;have e1:vs.toArray.extract (k.toNat*sz) (k.toNat*sz+sz)=((vs.drop (k.toNat*sz)).take sz).toArray:=by apply Array.ext';simp[List.drop_take]
    refine .same S (r:=.agg ((cs.drop (k.toNat*sz)).take sz)) (v:=.agg ((vs.drop (k.toNat*sz)).take sz).toArray) (by simp[execOp,ho,hX,hY,Instr.index,asIntOf,run_underlying ht,g0,g1,part,zgq hg,zcc hsz];try(simpa using e1)) (.agg _ _ (by simp[h1]) fun j c v hc hv=>?_) hK;rw[List.getElem?_take]at hc hv;split at hc
    ·rename_i hj;rw[if_pos hj]at hv;rw[List.getElem?_drop]at hc hv;exact h2 _ c v hc hv
    ·cases hc
  ·exact h.elim
 ·cases hc
theorem snd_iaddr (S:Sim L σ w)(F:FR w L σ fr a.tmps){t:TypeId}{x y:Operand}{i:I}(ho:o.op=.indexAddr t x y)(hc:zcC P o=some i)(h:zaQ P i fr σ K):zaH P o a L σ w K:=by
 unfold zcC at hc;rw[ho]at hc;simp only at hc;split at hc
 ·rename_i n e ht;simp only[Option.bind_eq_bind,Option.bind_eq_some_iff,Option.pure_def,Option.some.injEq]at hc;obtain⟨sz,hsz,x',hx,y',hy,rfl⟩:=hc;simp only[zaQ,zgy,zc,zaV,zN,zbS,zcl]at h;have hv:=zU F hx;split at h
  ·rename_i k id off hk hid;rw[hid]at hv;obtain⟨hX,hfix⟩:=hv.box_inv;obtain⟨q,hY⟩:=(zU F hy).intV_inv hk;obtain⟨g0,g1,hK⟩:=h;exact .same S (r:=.box id (off+k.toNat*sz)) (v:=.pointer (some ⟨(L id).a.block,(L id).a.off+(off+k.toNat*sz),none⟩)) (by simp[execOp,ho,hX,hY,Instr.indexAt,asIntOf,run_underlying ht,Instr.sureAddr,g0,g1,zcc hsz,zcI,Nat.add_assoc]) (.box _ _ hfix) hK
  ·exact h.elim
 ·rename_i e ht;simp only[Option.bind_eq_bind,Option.bind_eq_some_iff,Option.pure_def,Option.some.injEq]at hc;obtain⟨sz,hsz,x',hx,y',hy,rfl⟩:=hc;simp only[zaQ,zgy,zc,zaV,zN,zbS,zcl]at h;have hv:=zU F hx;split at h
  ·rename_i k hk;obtain⟨q,hY⟩:=(zU F hy).intV_inv hk;split at h
   ·rename_i es hes;have hrd:=hv.esOf_inv hes;split at h
    ·rename_i e0 he0;obtain⟨g0,hlen,hK⟩:=h;generalize hX:a.eval x=X at hrd;cases hrd with
     | empty=>simp at he0
     | slice es b off cap sz' vs h0 h1 h2 h3 h4=>
      have:sz'=sz:=by rw[← hlen,h2 e0 (List.mem_of_getElem? he0)]
      subst this
      have hlt:=zo he0
      refine .same S (r:=.vp e0) (v:=.pointer (some ⟨b,off+k.toNat*sz',none⟩)) ?_ (.vp _ _ _ fun j d hj=>?_) hK
      ·have:k<es.length:=by omega
       simp[execOp,ho,hX,hY,Instr.indexAt,asIntOf,run_underlying ht,g0,this,zcc hsz,zcI]
      ·obtain⟨c1,c2⟩:=h3 k.toNat e0 j d he0 hj
       rw[Nat.add_assoc]
       exact⟨_,c1,c2,h4 k.toNat e0 j d he0 hj⟩
    ·exact h.elim
   ·split at h
    ·rename_i id off len cap s hid;rw[hid]at hv;obtain⟨hX,hfix,hlc⟩:=hv.bsl_inv;obtain⟨rfl,g0,g1,hK⟩:=h;exact .same S (r:=.box id (off+k.toNat*s)) (v:=.pointer (some ⟨(L id).a.block,(L id).a.off+(off+k.toNat*s),none⟩)) (by simp[execOp,ho,hX,hY,Instr.indexAt,asIntOf,run_underlying ht,g0,g1,zcc hsz,zcI,Nat.add_assoc]) (.box _ _ hfix) hK
    ·rename_i tt gg s lo hi hid;rw[hid]at hv;obtain⟨b0,c0,hX,hrow,hlh,hlc,hn0,hn1,hg,hcur⟩:=hv.rsl_inv;obtain⟨rfl,g0,g1,hK⟩:=h;obtain⟨b1,o1,hb1⟩:=hn1 (by omega);subst hb1;refine .same S (r:=.rpt tt gg ((lo+k.toNat)*s)) (v:=.pointer (some ⟨b1,o1+k.toNat*s,none⟩)) (by simp[execOp,ho,hX,hY,Instr.indexAt,asIntOf,run_underlying ht,g0,g1,zcc hsz,zcI]) (.rpt _ _ _ _ _ hrow hg fun sz' cs e=>?_) hK;obtain⟨q1,q2,q3,q4,q5⟩:=hcur sz' cs e;have:=q5 (by omega);simp only[Option.some.injEq,Addr.mk.injEq,and_true]at this;exact⟨this.1,by rw[this.2,Nat.add_mul];omega⟩
    ·exact h.elim
  ·exact h.elim
 ·cases hc
end
section
variable {P:Program} {o:Oper} {i:I} {fr:zW} {σ:List AObj} {K:KT} {L:Nat->Loc} {w:World} {a:Act}
def LKok (P:Program) (t:TypeId):LK->Prop
 | .str=>P.underlying t=some .string
 | .sl=>∃e,P.underlying t=some (.slice e)
 | .arr n=>(∃e,P.underlying t=some (.array n e))∨∃e e',P.underlying t=some (.pointer e)/\P.underlying e=some (.array n e')
 | .map=>∃k e,P.underlying t=some (.map k e)
theorem snd_len (S:Sim L σ w)(F:FR w L σ fr a.tmps){c:Call}{t:TypeId}{x:Operand}{k:LK}{y:Opd}(ho:o.op=.call c)(hcal:c.callee=.builtin .len)(ht:c.argTypes[0]? = some t)(hargs:c.args.toList=[x])(hx:opd x=some y)
  (hk:LKok P t k)
  (h:zaQ P (.len k y) fr σ K):zaH P o a L σ w K:=by
 have hargs':c.args=#[x]:=by apply Array.ext';simpa using hargs
 have hv:=zU F hx;have fin:∀ {n:Int},(Builtin.len_ c.argTypes o.type #[a.eval x]).run P w=.ok (.int .i64 n) w->K (.d (.int .i64 n)) σ->zaH P o a L σ w K:=fun{n} h1 h2=>by
  refine .same S (r:=.d (.int .i64 n)) (v:=.int .i64 n) ?_ (.d _ _ (.int _ _)) h2;simp[execOp,ho,resolve,hcal,hargs',invoke,builtin,h1]
 cases k with
 | str=>
  simp only[zaQ,zah,zgF,zhG,zF,zbb,zrZ]at h
  split at h
  ·rename_i s hid
   rw[hid]at hv
   have hX:=hv.str_inv
   exact fin (by have hsz:(ByteArray.mk s.toArray).size=s.length:=(by simp[ByteArray.size]);simp[Builtin.len_,ht,hX,run_underlying hk,goInt,hsz]) h
  ·exact h.elim
 | sl=>
  obtain⟨e,hk⟩:=hk
  simp only[zaQ,zah,zgF,zhG,zF,zbb,zrZ]at h
  split at h
  ·rename_i es hes
   obtain⟨b,cap,hX,_⟩:=(hv.esOf_inv hes).len
   exact fin (by simp[Builtin.len_,ht,hX,run_underlying hk,goInt]) h
  ·split at h
   ·rename_i hid
    rw[hid]at hv
    obtain⟨hX,_⟩:=hv.bsl_inv
    exact fin (by simp[Builtin.len_,ht,hX,run_underlying hk,goInt]) h
   ·rename_i lo hi hid
    rw[hid]at hv
    obtain⟨b0,c0,hX,_⟩:=hv.rsl_inv
    exact fin (by simp[Builtin.len_,ht,hX,run_underlying hk,goInt]) h
   ·exact h.elim
 | arr n=>
  simp only[zaQ,zah,zgF,zhG,zF,zbb,zrZ]at h
  rcases hk with⟨e,hk⟩|⟨e,e',hk,hk'⟩
  ·exact fin (by simp[Builtin.len_,ht,run_underlying hk,goInt]) h
  ·exact fin (by simp[Builtin.len_,ht,run_underlying hk,run_underlying hk',goInt]) h
 | map=>
  obtain⟨kt,et,hk⟩:=hk
  simp only[zaQ,zah]at h
  split at h
  ·rename_i id hid
   rw[hid]at hv
   obtain⟨hX,_⟩:=hv.map_inv
   split at h
   ·rename_i es hes
    obtain⟨ms,clock,h1,h2,_⟩:=S.obj id _ hes
    exact fin (by simp[Builtin.len_,ht,hX,run_underlying hk,goInt,getObj,Sem.run,h1,h2]) h
   ·exact h.elim
  ·rename_i hid
   rw[hid]at hv
   have hX:=hv.nilmap_inv
   exact fin (n:=0) (by simp[Builtin.len_,ht,hX,run_underlying hk,goInt]) h
  ·exact h.elim
theorem zyG:∀(l:List AV) (vs:List Value) (k:IntKind) (m n:Int),RVs w L σ l vs->zjT m l=some n->(vs.foldlM Builtin.max2 (.int k m)).run P w=.ok (.int k n) w
 | [],vs,k,m,n,hv,h=>by
  have:vs=[]:=by have:=hv.1;simpa using this
  subst this;simp[zjT]at h;subst h;simp
 | x::l,vs,k,m,n,hv,h=>by
  cases vs with
  | nil=>have:=hv.1;simp at this
  | cons v vs=>
   unfold zjT at h
   split at h
   ·rename_i heq;cases heq
   ·rename_i _ m' k' q r heq
    cases heq
    have e:=(hv.2 0 _ v rfl rfl).int_inv
    have ih:=zyG l vs k _ n ⟨by have:=hv.1;simpa using this,fun i a b ha hb=>hv.2 (i+1) a b ha hb⟩ h
    simp[e,Builtin.max2]
    exact ih
   ·cases h
theorem zyE:∀(l:List AV) (vs:List Value) (k:IntKind) (m n:Int),RVs w L σ l vs->zjS m l=some n->(vs.foldlM Builtin.min2 (.int k m)).run P w=.ok (.int k n) w
 | [],vs,k,m,n,hv,h=>by
  have:vs=[]:=by have:=hv.1;simpa using this
  subst this;simp[zjS]at h;subst h;simp
 | x::l,vs,k,m,n,hv,h=>by
  cases vs with
  | nil=>have:=hv.1;simp at this
  | cons v vs=>
   unfold zjS at h
   split at h
   ·rename_i heq;cases heq
   ·rename_i _ m' k' q r heq
    cases heq
    have e:=(hv.2 0 _ v rfl rfl).int_inv
    have ih:=zyE l vs k _ n ⟨by have:=hv.1;simpa using this,fun i a b ha hb=>hv.2 (i+1) a b ha hb⟩ h
    simp[e,Builtin.min2]
    exact ih
   ·cases h
theorem snd_max (S:Sim L σ w)(F:FR w L σ fr a.tmps){c:Call}{ys:List Opd}(ho:o.op=.call c)(hcal:c.callee=.builtin .max)(hy:c.args.toList.mapM opd=some ys)(h:zaQ P (.maxi ys) fr σ K):zaH P o a L σ w K:=by
 simp only[zaQ,zah,zgF,zhG,zF,zbb,zrZ]at h;have hv:=zmy F hy;split at h
 ·rename_i k n r heq;rw[heq]at hv;split at h
  ·rename_i m hm;generalize hvs:c.args.toList.map a.eval=vs at hv;cases vs with
   | nil=>have:=hv.1;simp at this
   | cons v vs=>
    have e:=(hv.2 0 _ v rfl rfl).int_inv
    have:=zyG (P:=P) r vs k n m ⟨by have:=hv.1;simpa using this,fun i a b ha hb=>hv.2 (i+1) a b ha hb⟩ hm
    refine .same S (r:=.d (.int k m)) (v:=.int k m) ?_ (.d _ _ (.int _ _)) h
    simp[execOp,ho,resolve,hcal,invoke,builtin,Builtin.max_,hvs,e,this]
  ·exact h.elim
 ·exact h.elim
theorem snd_min (S:Sim L σ w)(F:FR w L σ fr a.tmps){c:Call}{ys:List Opd}(ho:o.op=.call c)(hcal:c.callee=.builtin .min)(hy:c.args.toList.mapM opd=some ys)(h:zaQ P (.mini ys) fr σ K):zaH P o a L σ w K:=by
 simp only[zaQ,zah,zgF,zhG,zF,zbb,zrZ]at h;have hv:=zmy F hy;split at h
 ·rename_i k n r heq;rw[heq]at hv;split at h
  ·rename_i m hm;generalize hvs:c.args.toList.map a.eval=vs at hv;cases vs with
   | nil=>have:=hv.1;simp at this
   | cons v vs=>
    have e:=(hv.2 0 _ v rfl rfl).int_inv
    have:=zyE (P:=P) r vs k n m ⟨by have:=hv.1;simpa using this,fun i a b ha hb=>hv.2 (i+1) a b ha hb⟩ hm
    refine .same S (r:=.d (.int k m)) (v:=.int k m) ?_ (.d _ _ (.int _ _)) h
    simp[execOp,ho,resolve,hcal,invoke,builtin,Builtin.min_,hvs,e,this]
  ·exact h.elim
 ·exact h.elim
theorem zuk:∀(xs:List Value) (cs:Array Value) (off j0:Nat),off+j0+xs.length<=cs.size →
  ((xs.zipIdx j0).foldl (fun cs (p:Value × Nat)=>cs.setIfInBounds (off+p.2) p.1) cs).toList=zaq cs.toList (off+j0) xs
 | [],cs,off,j0,_=>by simp[zaq]
 | x::xs,cs,off,j0,h=>by
  simp only[List.length_cons]at h;simp only[List.zipIdx_cons,List.foldl_cons];rw[zuk xs _ off (j0+1) (by simp;omega)];simp only[Array.toList_setIfInBounds];apply List.ext_getElem?;intro q;have hl:cs.toList.length=cs.size:=by simp
  simp only[zaq,List.append_assoc,List.getElem?_append,List.length_take,List.length_set,List.length_cons,List.cons_append,hl];have h1:min (off+j0) cs.size=off+j0:=by omega
  have h2:min (off+(j0+1)) cs.size=off+j0+1:=by omega
  rw[h1,h2];by_cases c1:q<off+j0
  ·rw[if_pos c1,if_pos (by omega)];simp[List.getElem?_take,c1,show q<off+(j0+1) by omega,List.getElem?_set_ne (show off+j0≠q by omega)]
  ·rw[if_neg c1];by_cases c2:q=off+j0
   ·subst c2;simp[List.getElem?_take,show off+j0<cs.size by omega,show off+j0<off+(j0+1) by omega]
   ·rw[if_neg (by omega)];rw[show q-(off+j0)=(q-(off+j0+1))+1 by omega,List.getElem?_cons_succ,List.getElem?_append];split
    ·rfl
    ·simp only[List.getElem?_drop];rw[List.getElem?_set_ne (by omega)];congr 1;omega
theorem splice_rvs {cs xs:List AV}{vs us:List Value}{off:Nat}(h:RVs w L σ cs vs)(h':RVs w L σ xs us)(hle:off+xs.length<=cs.length):RVs w L σ (zaq cs off xs) (zaq vs off us):=by
 refine⟨by simp[zaq,h.1,h'.1],fun i c v hc hv=>?_⟩;have e1:=h.1;have e2:=h'.1;simp only[zaq,List.append_assoc,List.getElem?_append,List.length_take,e1,e2]at hc hv;have h1:min off cs.length=off:=by omega
 rw[h1]at hc hv;split at hc
 ·rename_i c1;rw[if_pos c1]at hv;rw[List.getElem?_take]at hc hv;rw[if_pos c1]at hc hv;exact h.2 i c v hc hv
 ·rename_i c1;rw[if_neg c1]at hv;split at hc
  ·rename_i c2;rw[if_pos c2]at hv;exact h'.2 _ c v hc hv
  ·rename_i c2;rw[if_neg c2]at hv;rw[List.getElem?_drop]at hc hv;exact h.2 _ c v hc hv
theorem zri (F:FR w L σ fr a.tmps)(place:Nat->Option (Nat × Nat)):∀(ps:List (Nat × Operand)) (qs:List (Nat × Nat × Opd)) (cs out:List AV) (cells:Array Value),
  qs.length=ps.length->(∀(k:Nat) p q,ps[k]? = some p->qs[k]? = some q->place p.1=some (q.1,q.2.1)/\opd p.2=some q.2.2)->RVs w L σ cs cells.toList->zuV fr cs qs=some out →
  ∃cells',Instr.fill place cells (ps.map fun p=>(p.1,a.eval p.2))=some cells'∧RVs w L σ out cells'.toList
 | [],qs,cs,out,cells,hl,_,hr,h=>by
  have:qs=[]:=by simpa using hl
  subst this;simp[zuV]at h;subst h;exact⟨cells,rfl,hr⟩
 | p::ps,[],_,_,_,hl,_,_,_=>by simp at hl
 | p::ps,(off,s,x)::qs,cs,out,cells,hl,hp,hr,h=>by
  obtain⟨h1,h2⟩:=hp 0 p (off,s,x) rfl rfl;simp only[zuV]at h;split at h
  ·rename_i xs hxs;split at h
   ·rename_i hc;obtain⟨c1,c2⟩:=hc;have hrv:=(zU F h2).cells hxs;have hsz:(a.eval p.2).cells.size=s:=by have:=hrv.1;simp at this;omega
    have hcs:cells.size=cs.length:=by have:=hr.1;simpa using this
    have hsp:=zuk (a.eval p.2).cells.toList cells off 0 (by simp;omega);have hrr:RVs w L σ (zaq cs off xs) (zaq cells.toList off (a.eval p.2).cells.toList):=splice_rvs hr hrv (by omega);obtain⟨cells',g1,g2⟩:=zri F place ps qs (zaq cs off xs) out (((a.eval p.2).cells.toList.zipIdx 0).foldl (fun cs (p:Value × Nat)=>cs.setIfInBounds (off+p.2) p.1) cells) (by simpa using hl) (fun k p' q' hk hk'=>hp (k+1) p' q' hk hk') (by rw[hsp,Nat.add_zero];exact hrr) h;refine⟨cells',?_,g2⟩;simp only[List.map_cons,Instr.fill,h1];have hneg:¬((decide ((a.eval p.2).cells.size≠s) || decide (off+(a.eval p.2).cells.size>cells.size))=true):=by simp;omega
    rw[if_neg hneg,← g1];congr 1;rw[← Array.foldl_toList,Array.toList_zipIdx]
   ·cases h
  ·cases h
theorem snd_build (S:Sim L σ w)(F:FR w L σ fr a.tmps){t:TypeId}{parts:Array (Nat × Operand)}{i:I}(ho:o.op=.build t parts)(hc:zcC P o=some i)(h:zaQ P i fr σ K):zaH P o a L σ w K:=by
 unfold zcC at hc;rw[ho]at hc;simp only at hc;have fin:∀ {zs:List AV} {ps:List (Nat × Nat × Opd)} {z:Value} (place:Nat->Option (Nat × Nat)),RVs w L σ zs z.cells.toList->(ps.length=parts.toList.length) →
   (∀(k:Nat) p q,parts.toList[k]? = some p->ps[k]? = some q->place p.1=some (q.1,q.2.1)/\opd p.2=some q.2.2) →
   (∀l,P.built t l=Instr.fill place z.cells l)->zaQ P (.build zs ps) fr σ K->zaH P o a L σ w K:=fun{zs ps z} place hz hl hp hb h=>by
  simp only[zaQ,zah,zgF,zhG,zF,zbb,zrZ]at h;split at h
  ·rename_i cs hcs;obtain⟨cells',g1,g2⟩:=zri F place parts.toList ps zs cs z.cells hl hp hz hcs;have hrun:=run_build (P:=P) w t (parts.map fun p=>(p.1,a.eval p.2)) cells' (by rw[hb,← g1];congr 1;simp);refine .same S (r:=.agg cs) (v:=.agg cells') (by simp only[execOp,ho];simp[hrun]) ?_ h;have:=RV.agg (w:=w) (L:=L) (σ:=σ) cs cells'.toList g2.1 g2.2;simpa using this
  ·exact h.elim
 split at hc
 ·rename_i fs ht;simp only[Option.bind_eq_bind,Option.bind_eq_some_iff]at hc;obtain⟨zs,hz,ps,hps,hc⟩:=hc;split at hc
  ·rename_i hall;simp only[Option.pure_def,Option.some.injEq]at hc;subst hc;obtain⟨inf,z,hi,hz1,hz2⟩:=zgV hz;obtain⟨m1,m2⟩:=mapM_some hps;have hall':∃places,fs.toList.mapM (fun f=>(P.info? f.type).map fun i=>(f.offset,i.size))=some places:=by
    clear hps m1 m2;generalize fs.toList=l at hall;induction l with
    | nil=>exact⟨[],rfl⟩
    | cons f l ih=>
     simp only[List.all_cons,Bool.and_eq_true]at hall
     obtain⟨pl,hpl⟩:=ih hall.2
     have h1:=hall.1
     simp only[sizeOf?,Option.isSome_map]at h1
     cases hf:P.info? f.type with
     | none=>simp[hf]at h1
     | some i=>exact⟨(f.offset,i.size)::pl,by simp[List.mapM_cons,hf,hpl]⟩
   obtain⟨places,hpl⟩:=hall';obtain⟨n1,n2⟩:=mapM_some hpl;refine fin (z:=z) (places.toArray[·]?) (zrG hz2) m1 (fun k p q hp hq=>?_) (fun l=>by simp[Program.built,hi,ht,hz1,hpl]) h;have:=m2 k p q hp hq;simp only[Option.bind_eq_bind,Option.bind_eq_some_iff,Option.pure_def,Option.some.injEq]at this;obtain⟨f,hf,s,hs,y,hy,rfl⟩:=this;refine⟨?_,hy⟩;have hfl:fs.toList[p.1]? = some f:=by simpa using hf
   have hlt:=zo hfl;have hpp:places[p.1]? = some (places[p.1]'(by omega)):=List.getElem?_eq_getElem _;have:=n2 p.1 f _ hfl hpp;simp only[sizeOf?,Option.map_eq_some_iff]at hs this;obtain⟨i1,e1,e2⟩:=hs;obtain⟨i2,e3,e4⟩:=this;rw[e1]at e3;cases e3;simp only[List.getElem?_toArray,hpp,← e4,e2]
  ·cases hc
 ·rename_i n e ht;simp only[Option.bind_eq_bind,Option.bind_eq_some_iff,Option.pure_def,Option.some.injEq]at hc;obtain⟨zs,hz,s,hs,ps,hps,rfl⟩:=hc;obtain⟨inf,z,hi,hz1,hz2⟩:=zgV hz;obtain⟨m1,m2⟩:=mapM_some hps;simp only[sizeOf?,Option.map_eq_some_iff]at hs;obtain⟨ie,e1,e2⟩:=hs;refine fin (z:=z) (fun i=>some (i*s,s)) (zrG hz2) m1 (fun k p q hp hq=>?_) (fun l=>by simp[Program.built,hi,ht,hz1,e1,e2]) h;have:=m2 k p q hp hq;simp only[Option.bind_eq_bind,Option.bind_eq_some_iff,Option.pure_def,Option.some.injEq]at this;obtain⟨y,hy,rfl⟩:=this;exact⟨rfl,hy⟩
 ·cases hc
theorem snd_rangeS (S:Sim L σ w)(F:FR w L σ fr a.tmps){t:TypeId}{x:Operand}{i:I}(hs:P.underlying t=some .string)(ho:o.op=.range t x)(hc:zcC P o=some i)(h:zaQ P i fr σ K):zaH P o a L σ w K:=by
 unfold zcC at hc;rw[ho]at hc;simp only at hc;split at hc
 ·rename_i ht;simp only[Option.bind_eq_bind,Option.bind_eq_some_iff,Option.pure_def,Option.some.injEq]at hc;obtain⟨y,hx,rfl⟩:=hc;simp only[zaQ,zah,zgF,zhG,zF,zbb,zrZ]at h;have hv:=zU F hx;split at h
  ·rename_i s hid;rw[hid]at hv;have hX:=hv.str_inv;have hf:∀b c,zfw { a:=⟨w.heap.size,0,none⟩ } (.iter s 0) b c->b=w.heap.size:=fun b c h=>h;have st:=zes L σ (.stringIter ⟨s.toArray⟩ 0) { a:=⟨w.heap.size,0,none⟩ } (.iter s 0) hf;have S':=zgf S (.stringIter ⟨s.toArray⟩ 0) { a:=⟨w.heap.size,0,none⟩ } (.iter s 0) hf (by
    show(w.heap.push _)[w.heap.size]? = _;simp)
   refine⟨.iter σ.length,.pointer (some ⟨w.heap.size,0,none⟩),_,_,_,.inl ?_,st,S',?_,h⟩
   ·simp[execOp,ho,hX,Instr.range,run_underlying ht,newObj,Sem.run]
   ·have:=RV.iter (w:=w.alloc (.stringIter ⟨s.toArray⟩ 0)) (L:=zka L σ.length { a:=⟨w.heap.size,0,none⟩ }) (σ:=σ++[.iter s 0]) σ.length ⟨.iter s 0,by simp,by simp[AObj.kind]⟩;rw[zY]at this;exact this
  ·exact h.elim
 ·rename_i ht;rw[hs]at ht;cases ht
 ·cases hc
theorem snd_nextS (S:Sim L σ w)(F:FR w L σ fr a.tmps){x:Operand}{y:Opd}(hx:opd x=some y)(ho:o.op=.next x true)(h:zaQ P (.nextS y) fr σ K):zaH P o a L σ w K:=by
 simp only[zaQ,zah,zgF,zhG,zF,zbb,zrZ]at h;have hv:=zU F hx;split at h
 ·rename_i id hid;rw[hid]at hv;obtain⟨hX,hfix⟩:=hv.iter_inv;split at h
  ·rename_i s pos hs;have hob:=S.obj id _ hs;have hsz:(ByteArray.mk s.toArray).size=s.length:=by simp[ByteArray.size]
   have hheap:w.heap[(L id).a.block]? = some (.stringIter ⟨s.toArray⟩ pos):=hob;split at h
   ·rename_i hlt;obtain⟨st,S'⟩:=znd S hs (x':=.iter s (pos+(Utf8.decode ⟨s.toArray⟩ pos).2)) rfl (by simp[AObj.kind]) (by simp[AObj.kind]) (.stringIter ⟨s.toArray⟩ (pos+(Utf8.decode ⟨s.toArray⟩ pos).2)) (fun w' e _=>by
     subst e;show(w.heap.setIfInBounds _ _)[_]? = _;simp[(Array.getElem?_eq_some_iff.1 hheap).1])
    refine⟨.tup [.d (.bool true),.d (.int .i64 pos),.d (.int .i32 (Utf8.decode ⟨s.toArray⟩ pos).1)],.tuple #[.bool true,.int .i64 pos,.int .i32 (Utf8.decode ⟨s.toArray⟩ pos).1],L,_,_,.inl ?_,st,S',?_,h⟩
    ·simp[execOp,ho,hX,Instr.next,getObj,setObj,Sem.run,hheap,hsz,hlt,goInt]
    ·have:=RV.tup (w:={ w with heap:=w.heap.setIfInBounds (L id).a.block (.stringIter ⟨s.toArray⟩ (pos+(Utf8.decode ⟨s.toArray⟩ pos).2)) }) (L:=L) (σ:=σ.set id (.iter s (pos+(Utf8.decode ⟨s.toArray⟩ pos).2)))
      [.d (.bool true),.d (.int .i64 pos),.d (.int .i32 (Utf8.decode ⟨s.toArray⟩ pos).1)] [.bool true,.int .i64 pos,.int .i32 (Utf8.decode ⟨s.toArray⟩ pos).1] rfl (fun i c v hc hv=>by
       match i with
       | 0=>simp at hc hv;subst hc hv;exact .d _ _ (.bool _)
       | 1=>simp at hc hv;subst hc hv;exact .d _ _ (.int _ _)
       | 2=>simp at hc hv;subst hc hv;exact .d _ _ (.int _ _)
       | n+3=>simp at hc)
     exact this
   ·rename_i hlt;refine .same S (r:=.tup [.d (.bool false)]) (v:=.tuple #[.bool false]) ?_ ?_ h
    ·simp[execOp,ho,hX,Instr.next,getObj,Sem.run,hheap,hsz,hlt]
    ·exact .tup [.d (.bool false)] [.bool false] rfl (fun i c v hc hv=>by
       match i with
       | 0=>simp at hc hv;subst hc hv;exact .d _ _ (.bool _)
       | n+1=>simp at hc)
  ·exact h.elim
 ·exact h.elim
end
section
variable {P:Program} {o:Oper} {i:I} {fr:zW} {σ:List AObj} {K:KT} {L:Nat->Loc} {w:World} {a:Act}
theorem rep_get {α:Type}(z:List α)(s:Nat)(hz:z.length=s)(hs:0<s):∀(n i:Nat),i<n*s->(rep z n)[i]? = z[i % s]?
 | 0,i,h=>by simp at h
 | n+1,i,h=>by
  simp only[rep];rcases Nat.lt_or_ge i s with hi|hi
  ·rw[List.getElem?_append_left (by omega),Nat.mod_eq_of_lt hi]
  ·rw[List.getElem?_append_right (by omega),hz,rep_get z s hz hs n (i-s) (by rw[Nat.succ_mul]at h;omega)];congr 1;rw[Nat.mod_eq_sub_mod hi]
theorem zkd {α:Type}(z:List α):∀n,(rep z n).length=n*z.length
 | 0=>by simp[rep]
 | n+1=>by simp[rep,zkd z n,Nat.succ_mul,Nat.add_comm]
theorem zpO {α:Type}(s:Nat):∀(n:Nat) (l:List α) (i:Nat) (e:List α) (j:Nat) (d:α),(zaD s n l)[i]? = some e->e[j]? = some d->j<s/\i<n/\l[i*s+j]? = some d
 | 0,l,i,e,j,d,h,_=>by simp[zaD]at h
 | n+1,l,i,e,j,d,h,hj=>by
  cases i with
  | zero=>
   simp[zaD]at h;subst h
   rw[List.getElem?_take]at hj
   split at hj
   ·rename_i c;exact⟨c,by omega,by simpa using hj⟩
   ·cases hj
  | succ i=>
   simp[zaD]at h
   obtain⟨h1,h2,h3⟩:=zpO s n _ i e j d h hj
   rw[List.getElem?_drop]at h3
   exact⟨h1,by omega,by rw[← h3];congr 1;rw[Nat.succ_mul];omega⟩
theorem zkg {α:Type}(s:Nat):∀(n:Nat) (l:List α),(zaD s n l).length=n
 | 0,_=>rfl
 | n+1,l=>by simp[zaD,zkg s n]
theorem zrx {α:Type}(s:Nat):∀(n:Nat) (l:List α),l.length=n*s->∀e∈zaD s n l,e.length=s
 | 0,l,h,e,he=>by simp[zaD]at he
 | n+1,l,h,e,he=>by
  rw[Nat.succ_mul]at h;simp only[zaD,List.mem_cons]at he;rcases he with rfl|he
  ·simp;omega
  ·exact zrx s n (l.drop s) (by simp;omega) e he
theorem toD_sound {c:AV}{d:D}{v:Value}(h:RV w L σ c v)(hd:toD c=some d):RD w (Own L σ) d v:=by
 cases h with
 | d _ _ h=>simp[toD]at hd;subst hd;exact h
 | own _ _ _ _ _ _ _ _ h=>simp[toD]at hd;subst hd;exact h
 | exact _ _ h=>simp[toD]at hd;subst hd;exact h
 | _=>simp[toD]at hd
theorem zsX:∀ {cs:List AV} {ds:List D},zhV cs=some ds->ds.length=cs.length/\∀(i:Nat) c d,cs[i]? = some c->ds[i]? = some d->toD c=some d
 | [],ds,h=>by simp[zhV]at h;subst h;simp
 | c::cs,ds,h=>by
  simp only[zhV]at h;split at h
  ·rename_i x r h1 h2;cases h;obtain⟨g1,g2⟩:=zsX h2;refine⟨by simp[g1],fun i c' d hc hd=>?_⟩;cases i with
   | zero=>simp at hc hd;subst hc hd;exact h1
   | succ i=>simp at hc hd;exact g2 i c' d hc hd
  ·cases h
theorem zul:∀ {qs:List (Nat × Nat × Opd)} {cs out:List AV},zuV fr cs qs=some out->out.length=cs.length
 | [],cs,out,h=>by simp[zuV]at h;subst h;rfl
 | (off,s,x)::qs,cs,out,h=>by
  simp only[zuV]at h;split at h
  ·rename_i xs hxs;split at h
   ·rename_i hc;rw[zul h,zzO (by omega)]
   ·cases h
  ·cases h
theorem block_elem (S:Sim L σ w){cs:List AV}{ds:List D}{cells:Array Value}(hr:RVs w L σ cs cells.toList)(hd:zhV cs=some ds)(t:TypeId)(s n:Nat)(hl:cs.length=n*s) :
  RD (w.alloc (.cells cells t)) (Own L σ) (.slice (zaD s n ds)) (.slice (some ⟨w.heap.size,0,none⟩) n n):=by
 obtain⟨g1,g2⟩:=zsX hd;obtain⟨st,_⟩:=zrD S (.cells cells t);have hn:(zaD s n ds).length=n:=zkg s n ds;have hds:=zrx s n ds (by omega);generalize hes:zaD s n ds=es at hn hds;rw[← hn];refine RD.of_block (sz:=s) (Nat.le_refl _) hds fun i e j d hi hj=>?_;rw[← hes]at hi;obtain⟨c1,c2,c3⟩:=zpO s n ds i e j d hi hj;have hlt:=zo c3;have hc:cs[i*s+j]? = some (cs[i*s+j]'(by omega)):=List.getElem?_eq_getElem _;have hsz:cells.size=cs.length:=by have:=hr.1;simpa using this
 have hv:cells[i*s+j]? = some (cells[i*s+j]'(by omega)):=Array.getElem?_eq_getElem _;refine⟨cells[i*s+j]'(by omega),?_,fun h=>?_,?_⟩
 ·rw[Nat.zero_add,cell?_alloc_any];exact hv
 ·have:=S.own_lt h;omega
 ·exact st.rd (toD_sound (hr.2 _ _ _ hc (by rw[Array.getElem?_toList];exact hv)) (g2 _ _ _ hc c3))
theorem run_mkslice {t e:TypeId}{n s:Nat}{zv:Value}{parts:Array (Nat × Value)}{cells:Array Value}(ht:P.underlying t=some (.slice e))(hs:sizeOf? P e=some s)(k1:n*s<=16777216)(hz0:∀w,(zeroValue e).run P w=.ok zv w)
  (g:Instr.fill (fun i=>some (i*s,s)) ((Array.range (n*s)).map (zv.cells[· % zv.cells.size]!)) parts.toList=some cells) :
  (Instr.buildSlice t n parts).run P w=.ok (.slice (some ⟨w.heap.size,0,none⟩) n n) (w.alloc (.cells cells e)):=by
 unfold Instr.buildSlice;have h24:¬(n*s>2 ^ 24):=by omega
 simp only[Sem.run_bind,run_underlying ht,zcc hs,Result.andThen_ok,if_neg h24,Sem.run_pure];by_cases hn0:n*s=0
 ·rw[if_pos hn0];rw[hn0]at g ⊢;have e0:(Array.range 0).map (fun i=>zv.cells[i % zv.cells.size]!)=(Array.range 0).map (fun i=>(#[]:Array Value)[i % (#[]:Array Value).size]!):=by apply Array.ext';simp
  rw[e0]at g;try simp only[Sem.run_bind,Sem.run_pure,Result.andThen_ok]
  split
  ·rename_i c hc;rw[g]at hc;cases hc;simp[newRow,newObj,Sem.run]
  ·rename_i hc;exact absurd g (hc _)
 ·rw[if_neg hn0];simp only[Sem.run_bind,hz0,Sem.run_pure,Result.andThen_ok];split
  ·rename_i c hc;rw[g]at hc;cases hc;simp[newRow,newObj,Sem.run]
  ·rename_i hc;exact absurd g (hc _)
theorem new_row (S:Sim L σ w){cs:List AV}{cells:Array Value}(hv:RVs w L σ cs (cells.toList.take cs.length))(t:TypeId)(sz n cap:Nat)(hsz:0<sz)(hl:cs.length=n*sz)(hn:n<=cap)(hc:cells.size=cap*sz)(hsc:∀c∈cs,sc c=true) :
  zdx L σ w (zka L σ.length { a:=⟨w.heap.size,0,none⟩,cap:=cap }) (σ++[.row 0 sz cs]) (w.alloc (.cells cells t))/\Sim (zka L σ.length { a:=⟨w.heap.size,0,none⟩,cap:=cap }) (σ++[.row 0 sz cs]) (w.alloc (.cells cells t)) ∧
   RV (w.alloc (.cells cells t)) (zka L σ.length { a:=⟨w.heap.size,0,none⟩,cap:=cap }) (σ++[.row 0 sz cs]) (.rsl σ.length 0 sz 0 n) (.slice (some ⟨w.heap.size,0,none⟩) n cap):=by
 have hf:∀b c,zfw { a:=⟨w.heap.size,0,none⟩,cap:=cap } (.row 0 sz cs) b c->b=w.heap.size:=fun b c h=>h.1;have s:=zes L σ (.cells cells t) { a:=⟨w.heap.size,0,none⟩,cap:=cap } (.row 0 sz cs) hf;have hcell:∀j,(w.alloc (.cells cells t)).cell? ⟨w.heap.size,0+j,none⟩=cells[j]?:=fun j=>by rw[Nat.zero_add];exact cell?_alloc_any w cells t (0,0) j
 refine⟨s,zgf S (.cells cells t) _ _ hf ⟨hsz,⟨n,hl,hn⟩,hsc,fun _=>by simp,fun o _ ho=>⟨?_,World.frozen?_alloc_at cells t _ o rfl⟩,fun j c hj=>?_⟩,?_⟩
 ·dsimp only at ho;have hlt:o<cells.size:=by omega
  exact⟨cells[o],by have:=cell?_alloc_any w cells t (0,0) o;rw[this];exact Array.getElem?_eq_getElem hlt⟩
 ·have h1:=zo hj;have h2:(cells.toList.take cs.length).length=cs.length:=hv.1;have h3:(cells.toList.take cs.length)[j]? = some ((cells.toList.take cs.length)[j]'(by omega)):=List.getElem?_eq_getElem _;have h4:=hv.2 j c _ hj h3;rw[List.getElem?_take,if_pos h1,Array.getElem?_toList]at h3;exact⟨_,(hcell j).trans h3,s.rv h4⟩
 ·have:=RV.rsl (w:=w.alloc (.cells cells t)) (L:=zka L σ.length { a:=⟨w.heap.size,0,none⟩,cap:=cap }) (σ:=σ++[.row 0 sz cs]) σ.length 0 sz 0 n (some ⟨w.heap.size,0,none⟩) cap ⟨_,List.getElem?_concat_length,.inl rfl⟩
   (fun _ _ _ _=>Nat.zero_le _) (Nat.zero_le _) (by omega) (fun e=>by cases e) (fun _=>⟨_,_,rfl⟩) (fun sz' cs' e=>by
    rw[List.getElem?_concat_length]at e;cases e;rw[zY];exact⟨rfl,by omega,hn,by simp,fun _=>by simp⟩)
  simpa using this
theorem snd_mkslice (S:Sim L σ w)(F:FR w L σ fr a.tmps){t:TypeId}{n:Nat}{parts:Array (Nat × Operand)}{mu:Bool}{s:Nat}{z:List AV}{ps:List (Nat × Nat × Opd)}(ho:o.op=.buildSlice t n parts)(hc:zcC P o=some (.mkslice false s n z ps))
  (h:zaQ P (.mkslice mu s n z ps) fr σ K):zaH P o a L σ w K:=by
 unfold zcC at hc;rw[ho]at hc;simp only at hc;split at hc
 ·rename_i e ht;simp only[Option.bind_eq_bind,Option.bind_eq_some_iff,Option.pure_def]at hc;obtain⟨s',hs,z',hz,ps',hps,hc⟩:=hc;split at hc
  ·rename_i hcond;simp only[Option.some.injEq,I.mkslice.injEq,true_and]at hc;obtain⟨rfl,rfl,rfl⟩:=hc;simp only[Bool.and_eq_true,decide_eq_true_eq,beq_iff_eq]at hcond;obtain⟨⟨k1,k2⟩,k3⟩:=hcond;obtain⟨inf,zv,hi,hz1,hz2⟩:=zgV hz;obtain⟨m1,m2⟩:=mapM_some hps;have hzr:=zrG hz2 (w:=w) (L:=L) (σ:=σ);have hzs:zv.cells.size=s':=by have:=hzr.1;simp at this;omega
   simp only[zaQ,zp]at h;split at h
   ·rename_i cs hcs;have hinit:RVs w L σ (rep z' n) ((Array.range (n*s')).map (zv.cells[· % zv.cells.size]!)).toList:=by
     refine⟨by simp[zkd,k3],fun i c v hc hv=>?_⟩;have hlt:i<n*s':=by have:=zo hc;rw[zkd,k3]at this;exact this
     rw[rep_get z' s' k3 k2 n i hlt]at hc;simp[hlt,hzs]at hv;have hm:i % s'<s':=Nat.mod_lt _ k2;have hv':zv.cells.toList[i % s']? = some v:=by
      rw[← hv];have:i % s'<zv.cells.size:=by omega
      simp[this]
     exact hzr.2 _ _ _ hc hv'
    have hfill:=zri F (fun i=>some (i*s',s')) parts.toList ps' (rep z' n) cs _ m1 (fun k p q hp hq=>by
     have:=m2 k p q hp hq;simp only[Option.bind_eq_bind,Option.bind_eq_some_iff,Option.pure_def,Option.some.injEq]at this;obtain⟨y,hy,rfl⟩:=this;exact⟨rfl,hy⟩) hinit hcs
    obtain⟨cells',g1,g2⟩:=hfill;have hlen:cs.length=n*s':=by rw[zul hcs,zkd,k3]
    have g1':Instr.fill (fun i=>some (i*s',s')) ((Array.range (n*s')).map (zv.cells[· % zv.cells.size]!)) (parts.map fun p=>(p.1,a.eval p.2)).toList=some cells':=by rw[Array.toList_map];exact g1
    have hz0:∀w,(zeroValue e).run P w=.ok zv w:=fun w=>by simp[zeroValue,typeInfo,hi,hz1]
    have hrun:(execOp a.eval o).run P w=.ok (.value (.slice (some ⟨w.heap.size,0,none⟩) n n)) (w.alloc (.cells cells' e)):=by
     have:=run_mkslice (P:=P) (w:=w) ht hs k1 hz0 g1';simp only[execOp,ho,Sem.run_bind,this,Result.andThen_ok,Sem.run_pure]
    cases mu
    ·simp only[Bool.false_eq_true,if_false]at h;split at h
     ·rename_i ds hds;obtain⟨st,S'⟩:=zrD S (.cells cells' e);have hrd:=block_elem S g2 hds e s' n hlen;refine⟨.exact (zaD s' n ds),_,L,σ,_,.inl hrun,st,S',?_,h⟩;have hn:(zaD s' n ds).length=n:=zkg s' n ds;have:=RV.exact (w:=w.alloc (.cells cells' e)) (L:=L) (σ:=σ) (zaD s' n ds) (some ⟨w.heap.size,0,none⟩) (by rw[hn];exact hrd);rw[hn]at this;exact this
     ·exact h.elim
    ·simp only[if_true]at h;obtain⟨hsc,h⟩:=h;obtain⟨st,S',hr⟩:=new_row S (cells:=cells') (by rw[List.take_of_length_le (by have:=g2.1;simp at this ⊢;omega)];exact g2) e s' n n k2 hlen (Nat.le_refl _) (by have:=g2.1;simp at this;omega) (fun c hc=>List.all_eq_true.1 hsc c hc);exact⟨.rsl σ.length 0 s' 0 n,_,_,_,_,.inl hrun,st,S',hr,h⟩
   ·exact h.elim
  ·cases hc
 ·cases hc
def zxh (P:Program) (w:World) (sz:Nat) (v:Value) (m:Nat) (news:List Value):Prop:=
 news.length=m*sz/\∀w':World,w'.heap=w.heap->(Builtin.lenOf v).run P w'=.ok m w'∧(Builtin.firstCells sz m v).run P w'=.ok news.toArray w'
theorem cell?_heap {w w':World}(h:w'.heap=w.heap)(p:Addr):w'.cell? p=w.cell? p:=by simp[World.cell?,h]
def zkb (w:World) (O:Nat->Nat->Prop) (sz:Nat) (es:List (List D)) (vs:List Value):Prop:=
 ∀(i:Nat) e (j:Nat) d,es[i]? = some e->e[j]? = some d->∃v,vs[i*sz+j]? = some v/\RD w O d v/\v.oneCell'=true
theorem RD.one {O:Nat->Nat->Prop}{x:D}{v:Value}(h:RD w O x v):v.oneCell'=true:=by cases h<;>rfl
theorem src_rd (P:Program){O:Nat->Nat->Prop}{es:List (List D)}{v:Value}{sz:Nat}(h:RD w O (.slice es) v)(hsz:∀e∈es,e.length=sz):∃news,zxh P w sz v es.length news/\zkb w O sz es news/\(∀u∈news,u.oneCell'=true):=by
 cases h with
 | empty b cap hb=>
  refine⟨[],⟨by simp,fun w' _=>?_⟩,fun i e j d hi _=>by simp at hi,by simp⟩
  cases b<;>simp[Builtin.lenOf,Builtin.firstCells,loadCells,loadCellsFrom]
 | slice es b off cap sz' vs h0 h1 h2 h3 h4=>
  have:sz'=sz:=by
   cases es with
   | nil=>exact absurd rfl h0
   | cons e es=>rw[← h2 e (by simp),hsz e (by simp)]
  subst this
  have hcell:∀k,k<es.length*sz'→w.cell? ⟨b,off+k,none⟩=some (vs k)/\(vs k).oneCell'=true:=fun k hk=>by
   have hs:0<sz':=by
    rcases Nat.eq_zero_or_pos sz' with e|e
    ·subst e;simp at hk
    ·exact e
   have hi:k / sz'<es.length:=Nat.div_lt_of_lt_mul (by rw[Nat.mul_comm];exact hk);have hj:k % sz'<sz':=Nat.mod_lt _ hs;have e1:es[k / sz']? = some es[k / sz']:=List.getElem?_eq_getElem _;have hl:=h2 es[k / sz'] (List.getElem_mem _);have e2:es[k / sz'][k % sz']? = some (es[k / sz'][k % sz']'(by omega)):=List.getElem?_eq_getElem _;have e3:k / sz' * sz'+k % sz'=k:=by rw[Nat.mul_comm];exact Nat.div_add_mod k sz'
   have c1:=(h3 _ _ _ _ e1 e2).1;have c2:=h4 _ _ _ _ e1 e2;rw[e3]at c1 c2;exact⟨c1,c2.one⟩
  refine⟨(List.range (es.length*sz')).map vs,⟨by simp,fun w' hw=>?_⟩,fun i e j d hi hj=>?_,?_⟩
  ·have:=run_loadCells (P:=P) w' ⟨b,off,none⟩ (es.length*sz') vs (fun j hj=>by rw[zcI,cell?_heap hw];exact(hcell j hj).1)
   simp[Builtin.lenOf,Builtin.firstCells,this]
  ·have hl1:=zo hi
   have hl2:j<sz':=by have:=zo hj;rw[h2 e (List.mem_of_getElem? hi)]at this;exact this
   have hk:i*sz'+j<es.length*sz':=by
    have:(i+1)*sz'≤es.length*sz':=Nat.mul_le_mul_right _ hl1;rw[Nat.succ_mul]at this;omega
   exact⟨vs (i*sz'+j),by simp[hk],h4 i e j d hi hj,(hcell _ hk).2⟩
  ·intro u hu
   simp at hu
   obtain⟨k,hk,rfl⟩:=hu
   exact(hcell k hk).2
theorem zym (S:Sim L σ w){x:AV}{v:Value}{sz:Nat}{ys:List (List D)}(h:RV w L σ x v)(hy:zhY σ sz x=some ys)(hsz:∀e∈ys,e.length=sz) :
  ∃news,zxh P w sz v ys.length news/\zkb w (Own L σ) sz ys news/\(∀u∈news,u.oneCell'=true):=by
 unfold zhY at hy;split at hy
 ·cases hy;cases h with|d _ _ h=>exact src_rd P h hsz
 ·cases hy;cases h with|own _ _ _ _ _ _ _ _ h=>exact src_rd P h hsz
 ·cases hy;cases h with|exact _ _ h=>exact src_rd P h hsz
 ·rename_i s;cases hy;have hX:=h.str_inv;subst hX;refine⟨s.map fun b=>.int .u8 b.toNat,⟨?_,fun w' _=>?_⟩,fun i e j d hi hj=>?_,by simp;intros;rfl⟩
  ·cases s with
   | nil=>simp
   | cons b s=>
    have:sz=1:=by rw[← hsz (zch b) (by simp)];rfl
    subst this;simp
  ·have hl:(ByteArray.mk s.toArray).size=s.length:=by simp[ByteArray.size]
   refine⟨by simp[Builtin.lenOf,hl],?_⟩;have:(ByteArray.mk s.toArray).extract 0 (s.map zch).length=⟨s.toArray⟩:=by
    apply ByteArray.ext;rw[ByteArray.data_extract];apply Array.ext';simp
   simp only[Builtin.firstCells,this];simp
  ·simp only[List.getElem?_map,Option.map_eq_some_iff]at hi;obtain⟨b,hb,rfl⟩:=hi;have hsz1:sz=1:=by rw[← hsz (zch b) (List.mem_map_of_mem (List.mem_of_getElem? hb))];rfl
   subst hsz1;have hj0:j=0:=by have:=zo hj;simp[zch]at this;exact this
   subst hj0;simp[zch]at hj;subst hj;exact⟨.int .u8 b.toNat,by simp[hb],.int _ _,rfl⟩
 ·rename_i id off len cap s;split at hy
  ·rename_i hs;subst hs;split at hy
   ·rename_i cs hcs;split at hy
    ·rename_i hle;simp only[Option.map_eq_some_iff]at hy;obtain⟨ds,hds,rfl⟩:=hy;obtain⟨hX,hfix,hlc⟩:=h.bsl_inv;subst hX;obtain⟨_,_,hcells⟩:=S.obj id _ hcs;obtain⟨g1,g2⟩:=zsX hds;have hdl:ds.length=len*s:=by rw[g1];simp;omega
     have hat:∀k,k<len*s->∃v,w.cell? ⟨(L id).a.block,(L id).a.off+off+k,none⟩=some v/\∀d,ds[k]? = some d->RD w (Own L σ) d v:=fun k hk=>by
      have hc:cs[off+k]? = some (cs[off+k]'(by omega)):=List.getElem?_eq_getElem _;obtain⟨_,v,c1,c2⟩:=hcells (off+k) _ hc;rw[← Nat.add_assoc]at c1;refine⟨v,c1,fun d hd=>toD_sound c2 (g2 k _ d ?_ hd)⟩;rw[List.getElem?_take,if_pos hk,List.getElem?_drop];exact hc
     refine⟨(List.range (len*s)).map fun k=>(w.cell? ⟨(L id).a.block,(L id).a.off+off+k,none⟩).getD undef,⟨by simp[zkg],fun w' hw=>?_⟩,fun i e j d hi hj=>?_,?_⟩
     ·rw[zkg];have:=run_loadCells (P:=P) w' ⟨(L id).a.block,(L id).a.off+off,none⟩ (len*s) (fun k=>(w.cell? ⟨(L id).a.block,(L id).a.off+off+k,none⟩).getD undef) (fun j hj=>by
       obtain⟨v,c1,_⟩:=hat j hj;rw[zcI,cell?_heap hw,c1];rfl)
      simp[Builtin.lenOf,Builtin.firstCells,this]
     ·obtain⟨c1,c2,c3⟩:=zpO s len ds i e j d hi hj;have hk:=zo c3;rw[hdl]at hk;obtain⟨v,e1,e2⟩:=hat _ hk;exact⟨v,by simp[hk,e1],e2 d c3,(e2 d c3).one⟩
     ·intro u hu;simp at hu;obtain⟨k,hk,rfl⟩:=hu;obtain⟨v,e1,e2⟩:=hat k hk;rw[e1];exact(e2 (ds[k]'(by omega)) (List.getElem?_eq_getElem _)).one
    ·cases hy
   ·cases hy
  ·cases hy
 ·cases hy
section run
variable {t u e ty:TypeId} {inf:TypeInfo} {z:Value} {sz bytes:Nat} {base:Option Addr} {n cap m:Nat} {x:Value} {olds news:List Value}
theorem run_append_room' (ht:P.underlying t=some (.slice e))(hu:(∃e',P.underlying u=some (.slice e'))∨P.underlying u=some .string)(hs:sizeOf? P e=some sz)(hx:zxh P w sz x m news)(hroom:n+m<=cap) :
  (Builtin.append_ #[t,u] ty #[.slice base n cap,x]).run P w =
   ((match base with|some a=>storeCells (a.add (n*sz)) news|none=>pure ()).run P w).andThen fun _ w'=>.ok (.slice base (n+m) cap) w':=by
 obtain⟨h1,h2⟩:=hx.2 w rfl;rcases hu with⟨e',hu⟩|hu<;>cases base <;>
  simp[Builtin.append_,run_underlying ht,run_underlying hu,zcc hs,h1,h2,hroom]
theorem run_append_grow' (ht:P.underlying t=some (.slice e))(hu:(∃e',P.underlying u=some (.slice e'))∨P.underlying u=some .string)(hi:P.info? e=some inf)(hz:inf.zero=some z)(hs:inf.size=sz)(hb:inf.bytes=bytes)(hb0:0<bytes)
  (hx:zxh P w sz x m news) (ho:zxh P w sz (.slice base n cap) n olds) (hroom:¬n+m<=cap) (hfit:(n+m)*bytes<=140737488355328) :
  (Builtin.append_ #[t,u] ty #[.slice base n cap,x]).run P w =
   .ok (.slice (some ⟨w.heap.size,0,none⟩) (n+m) (grownCap w (n+m) cap e)) (w.drew.alloc (.cells (olds.toArray++news.toArray++Builtin.zeroCells z.cells (grownCap w (n+m) cap e-(n+m))) e)):=by
 obtain⟨h1,h2⟩:=hx.2 w rfl;obtain⟨h1',h2'⟩:=hx.2 w.drew rfl;obtain⟨h3,h4⟩:=ho.2 w.drew rfl;have hg:=growslice_fits (need:=n+m) (old:=cap) (bytes:=bytes) (by omega) hfit;have hg':¬(281474976710656<Builtin.nextslicecap (n+m) cap*bytes):=by omega
 have hb1:bytes≠0:=by omega
 rcases hu with⟨e',hu⟩|hu <;>
  simp[Builtin.append_,run_underlying ht,run_underlying hu,sizeOf,typeInfo,zeroValue,hi,hz,hs,hb,hb1,h1,hroom,hg',Question.forced,h2',h4,newRow,grownCap] <;>
  (congr 2;apply Array.ext';simp[List.append_assoc])
end run
end
section
variable {P:Program} {o:Oper} {i:I} {fr:zW} {σ:List AObj} {K:KT} {L:Nat->Loc} {w:World} {a:Act}
theorem zus {O:Nat->Nat->Prop}{sz:Nat}{es ys:List (List D)}{olds news:List Value}(h1:zkb w O sz es olds)(h2:zkb w O sz ys news)(hl:olds.length=es.length*sz) :
  zkb w O sz (es++ys) (olds++news):=by
 intro i e j d hi hj;rcases Nat.lt_or_ge i es.length with hlt|hge
 ·rw[List.getElem?_append_left hlt]at hi;obtain⟨v,c1,c2⟩:=h1 i e j d hi hj;exact⟨v,by rw[List.getElem?_append_left (zo c1)];exact c1,c2⟩
 ·rw[List.getElem?_append_right hge]at hi;obtain⟨v,c1,c2⟩:=h2 _ e j d hi hj;have e1:i*sz=(i-es.length)*sz+es.length*sz:=by rw[← Nat.add_mul];congr 1;omega
  refine⟨v,?_,c2⟩;rw[List.getElem?_append_right (by rw[hl];omega),hl];rw[show i*sz+j-es.length*sz=(i-es.length)*sz+j by omega];exact c1
theorem zkb.step {L L':Nat->Loc}{σ σ':List AObj}{w w':World}(s:zdx L σ w L' σ' w'){sz:Nat}{es:List (List D)}{vs:List Value}(h:zkb w (Own L σ) sz es vs):zkb w' (Own L' σ') sz es vs:=by
 intro i e j d hi hj;obtain⟨v,c1,c2,c3⟩:=h i e j d hi hj;exact⟨v,c1,s.rd c2,c3⟩
theorem ztY (id sz n:Nat):∀(vs:List Value) (off i:Nat) (w:World),Sim L σ w→σ[id]? = some (.tok sz n)->(L id).nil=false->(L id).a.spot=none->(∀v∈vs,v.oneCell'=true) →
  (L id).a.off+n*sz<=(L id).a.off+off+i->off+i+vs.length<=(L id).cap*sz →
  ∃w',(storeCells ⟨(L id).a.block,(L id).a.off+off,none⟩ vs i).run P w=.ok () w'∧zdx L σ w L σ w'∧Sim L σ w'∧w'.heap.size=w.heap.size ∧
   (∀k v,vs[k]? = some v->w'.cell? ⟨(L id).a.block,(L id).a.off+off+i+k,none⟩=some v) ∧
   (∀p,(p.block≠(L id).a.block∨p.off<(L id).a.off+off+i∨p.spot≠none)->w'.cell? p=w.cell? p)
 | [],off,i,w,S,_,_,_,_,_,_=>⟨w,by simp[storeCells],zdx.refl _ _ _,S,rfl,by simp,fun _ _=>rfl⟩
 | v::vs,off,i,w,S,hx,hn,hsp,hone,hlo,hhi=>by
  simp only[List.length_cons]at hhi;obtain⟨s1,S1⟩:=tok_store S hx (o:=(L id).a.off+off+i) hn (by omega) (by omega) v;obtain⟨_,_,_,h3⟩:=S.obj id _ hx;obtain⟨⟨u,hu⟩,hf⟩:=h3 hn ((L id).a.off+off+i) (by omega) (by omega);obtain⟨w',r,s2,S2,hs,hc,hk⟩:=ztY id sz n vs off (i+1) _ S1 hx hn hsp (fun v hv=>hone v (by simp[hv])) (by omega) (by omega);have ho:=hone v (by simp);have hst:(store ((Addr.mk (L id).a.block ((L id).a.off+off) none).add i) v).run P w=.ok () (w.setCell ⟨(L id).a.block,(L id).a.off+off+i,none⟩ v):=by
   rw[zcI];cases v<;>first|(simp[Value.oneCell']at ho;done)|simp[store,Sem.run,hu,hf]
  refine⟨w',by rw[storeCells];simp[hst,r],s1.trans s2,S2,by rw[hs];simp,fun k x hk'=>?_,fun p hp=>?_⟩
  ·cases k with
   | zero=>
    simp at hk';subst hk'
    rw[hk _ (.inr (.inl (by dsimp only;omega)))]
    exact World.cell?_setCell_same w _ _ hu
   | succ k=>
    simp at hk'
    have:=hc k x hk'
    rw[show(L id).a.off+off+i+(k+1)=(L id).a.off+off+(i+1)+k by omega]
    exact this
  ·rw[hk p (Or.imp_right (Or.imp_left fun h=>by omega) hp)];refine World.cell?_setCell_other w _ _ v fun e=>?_;subst e;rcases hp with h|h|h
   ·exact h rfl
   ·dsimp only at h;omega
   ·exact h rfl
theorem snd_append (S:Sim L σ w)(F:FR w L σ fr a.tmps){c:Call}{t u e:TypeId}{x y:Operand}{x' y':Opd}{sz bytes:Nat}{zz:List AV}{inf:TypeInfo}(ho:o.op=.call c)(hcal:c.callee=.builtin .append)(hat:c.argTypes.toList=[t,u])(hargs:c.args.toList=[x,y])
  (ht:P.underlying t=some (.slice e)) (hu:(∃e',P.underlying u=some (.slice e'))∨P.underlying u=some .string) (hs:sizeOf? P e=some sz) (hi:P.info? e=some inf) (hz:zsV P e=some zz) (hsz:0<sz) (hzl:zz.length=sz) (hb0:0<inf.bytes) (hb:inf.bytes=bytes)
  (hx:opd x=some x') (hy:opd y=some y') (h:zaQ P (.append false sz bytes zz x' y') fr σ K):zaH P o a L σ w K:=by
 have hargs':c.args=#[x,y]:=by apply Array.ext';simpa using hargs
 have hat':c.argTypes=#[t,u]:=by apply Array.ext';simpa using hat
 have hvx:=zU F hx;have hvy:=zU F hy;have hisz:inf.size=sz:=by simp only[sizeOf?,hi,Option.map_some,Option.some.injEq]at hs;exact hs
 obtain⟨inf',z,hi',hz1,hz2⟩:=zgV hz;rw[hi]at hi';cases hi';have hzs:z.cells.size=sz:=by have:=(mapM_some hz2).1;simp at this;omega
 have fin:∀ {v w'},(Builtin.append_ #[t,u] o.type #[a.eval x,a.eval y]).run P w=.ok v w'→(execOp a.eval o).run P w=.ok (.value v) w':=fun{v w'} h1=>by
  simp[execOp,ho,resolve,hcal,hargs',hat',invoke,builtin,h1]
 simp only[zaQ,zM]at h;split at h
 ·rename_i ys hys;obtain⟨hysz,h⟩:=h;obtain⟨news,hnews,hncells,hnone⟩:=zym (P:=P) S hvy hys hysz;have size_new:∀ {olds:List Value} {n cap:Nat},olds.length=n*sz->¬n+ys.length<=cap →
    (olds.toArray++news.toArray++Builtin.zeroCells z.cells (grownCap w (n+ys.length) cap e-(n+ys.length))).size=grownCap w (n+ys.length) cap e*sz:=fun{olds n cap} hol _=>by
   have hge:=grownCap_ge w (n+ys.length) cap e;simp only[Array.size_append,List.size_toArray,size_zeroCells,hzs,hol,hnews.1,← Nat.add_mul];congr 1;omega
  split at h
  ·skip;rename_i es hes;obtain⟨hesz,hfit,hK⟩:=h;rw[hes]at hvx;generalize hX:a.eval x=X at hvx;cases hvx with|exact _ b hrd=>
   obtain⟨olds,holds,hocells,hoone⟩:=src_rd P hrd hesz;by_cases hm:ys.length=0
   ·have hys0:ys=[]:=List.eq_nil_of_length_eq_zero hm;have hn0:news=[]:=List.eq_nil_of_length_eq_zero (by rw[hnews.1,hm];simp);have hrun:=run_append_room' (P:=P) (w:=w) (ty:=o.type) (base:=b) (n:=es.length) (cap:=es.length) ht hu hs hnews (by omega);have hrun':(Builtin.append_ #[t,u] o.type #[a.eval x,a.eval y]).run P w=.ok (.slice b es.length es.length) w:=by
     rw[hX,hrun,hn0,hm];cases b<;>simp[storeCells]
    have hspot:b=none->es.length=0:=fun hb'=>by
     cases hrd with
     | empty=>rfl
     | slice=>cases hb'
    let l:Loc:={ a:=b.getD ⟨0,0,none⟩,nil:=b.isNone,cap:=es.length };have hnoFoot:∀p q,¬zfw l (.tok sz es.length) p q:=fun p q hf=>by
     obtain⟨_,_,h1,h2⟩:=hf;dsimp only[l]at h1 h2;omega
    have hown:∀p q,Own (zka L σ.length l) (σ++[.tok sz es.length]) p q->Own L σ p q:=fun p q hf=>by
     obtain⟨id,ob,ho',hf⟩:=hf;rcases Nat.lt_or_ge id σ.length with hl|hl
     ·rw[List.getElem?_append_left hl]at ho';rw[zbG (by omega)]at hf;exact⟨id,ob,ho',hf⟩
     ·rw[List.getElem?_append_right hl]at ho';have e1:id=σ.length:=by have:=zo ho';simp at this;omega
      subst e1;simp at ho';subst ho';rw[zY]at hf;exact absurd hf (hnoFoot _ _)
    have st:zdx L σ w (zka L σ.length l) (σ++[.tok sz es.length]) w:=
     ⟨rfl,rfl,rfl,Nat.le_refl _,fun _ _ _=>rfl,fun _ _ _ _=>rfl,fun _ _ _ _=>rfl,fun p q _ hf=>hown p q hf,by simp,fun id ob hob=>by
      have hl:=zo hob;exact .stay (by rw[List.getElem?_append_left hl];exact hob) (zbG (by omega))⟩
    have hget:∀ {id ob},(σ++[AObj.tok sz es.length])[id]? = some ob->(id<σ.length∧σ[id]? = some ob)∨(id=σ.length/\ob=.tok sz es.length):=fun{id ob} hy=>by
     rcases Nat.lt_or_ge id σ.length with hl|hl
     ·rw[List.getElem?_append_left hl]at hy;exact .inl ⟨hl,hy⟩
     ·rw[List.getElem?_append_right hl]at hy;have e:id=σ.length:=by have:=zo hy;simp at this;omega
      subst e;simp at hy;exact .inr ⟨rfl,hy.symm⟩
    have S':Sim (zka L σ.length l) (σ++[.tok sz es.length]) w:=by
     refine⟨fun id ob hob=>?_,fun i j p q b' o' hij hp hq hfp hfq=>?_⟩
     ·rcases hget hob with⟨hl,hob⟩|⟨rfl,rfl⟩
      ·rw[zbG (by omega)];exact(S.obj id ob hob).keep st (fun _ _ _=>⟨rfl,rfl⟩) (fun _ _=>rfl)
      ·rw[zY];refine⟨Nat.le_refl _,fun hn=>?_,fun hn hc=>?_,fun hn o' h1 h2=>?_⟩
       ·exact hspot (by simpa [l] using hn)
       ·dsimp only[l]at hc ⊢;cases hrd with
        | empty=>simp at hc
        | slice=>rfl
       ·dsimp only[l]at h1 h2;omega
     ·rcases hget hp with⟨hl,hp1⟩|⟨e1,e2⟩
      ·rcases hget hq with⟨hl',hq1⟩|⟨e1,e2⟩
       ·rw[zbG (by omega)]at hfp hfq;exact S.apart i j p q b' o' hij hp1 hq1 hfp hfq
       ·rw[e1,zY,e2]at hfq;exact hnoFoot _ _ hfq
      ·rw[e1,zY,e2]at hfp;exact hnoFoot _ _ hfp
    subst hys0;simp only[List.append_nil,List.length_nil,Nat.add_zero]at hK;refine⟨.own σ.length es,_,_,_,w,.inl (fin hrun'),st,S',.own σ.length es _ sz es.length (by simp) (Nat.le_refl _) hesz (st.rd hrd) (fun _=>?_),hK⟩;rw[zY];dsimp only[l];cases b<;>simp
   ·have hroom:¬es.length+ys.length<=es.length:=by omega
    have hrun:=run_append_grow' (P:=P) (w:=w) (ty:=o.type) (base:=b) (n:=es.length) (cap:=es.length) ht hu hi hz1 hisz hb (hb▸hb0) hnews holds hroom hfit;have hrun':=hrun;rw[← hX]at hrun';have hsize:=size_new holds.1 hroom;have hge:=grownCap_ge w (es.length+ys.length) es.length e;generalize hgc:grownCap w (es.length+ys.length) es.length e=gc at *;generalize hcs:olds.toArray++news.toArray++Builtin.zeroCells z.cells (gc-(es.length+ys.length))=cells at *;obtain⟨S1,s1⟩:=S.drew (w.drawn+1);have hf:∀p q,zfw { a:=⟨w.heap.size,0,none⟩,cap:=gc } (.tok sz (es.length+ys.length)) p q->p=w.heap.size:=fun p q hf=>hf.2.1;have s2:=zes L σ (w:=w.drew) (.cells cells e) { a:=⟨w.heap.size,0,none⟩,cap:=gc } (.tok sz (es.length+ys.length)) hf;have S2:=zgf (w:=w.drew) S1 (.cells cells e) { a:=⟨w.heap.size,0,none⟩,cap:=gc } (.tok sz (es.length+ys.length)) hf (by
     refine⟨hge,fun h=>Bool.noConfusion h,fun _ _=>rfl,fun _ q h1 h2=>⟨?_,World.frozen?_alloc_at cells e _ q rfl⟩⟩;dsimp only at h1 h2;have hlt:q<cells.size:=by omega
     refine⟨cells[q],?_⟩;have:=cell?_alloc_any w.drew cells e (0,0) q;exact this.trans (Array.getElem?_eq_getElem hlt))
    have s12:=s1.trans s2;refine⟨.own σ.length (es++ys),_,_,_,_,.inl (fin hrun'),s12,S2,.own σ.length (es++ys) _ sz (es.length+ys.length) (by simp) (by simp) ?_ ?_ (fun _=>?_),hK⟩
    ·intro e' he';exact(List.mem_append.1 he').elim (hesz _) (hysz _)
    ·have hlen:(es++ys).length=es.length+ys.length:=by simp
     suffices hsuff:RD (w.drew.alloc (.cells cells e)) (Own (zka L σ.length { a:=⟨w.heap.size,0,none⟩,cap:=gc }) (σ++[.tok sz (es.length+ys.length)])) (.slice (es++ys)) (.slice (some ⟨w.heap.size,0,none⟩) (es++ys).length gc) by
      rw[hlen]at hsuff;exact hsuff
     refine RD.of_block (sz:=sz) (by rw[hlen];exact hge) (fun e' he'=>by exact(List.mem_append.1 he').elim (hesz _) (hysz _)) fun i e' j d hi hj=>?_;obtain⟨v,c1,c2,_⟩:=(zus hocells hncells holds.1).step s12 i e' j d hi hj;refine⟨v,?_,fun hown=>?_,c2⟩
     ·rw[Nat.zero_add];have:=cell?_alloc_any w.drew cells e (0,0) (i*sz+j);refine this.trans ?_;rw[← hcs,Array.getElem?_append_left (by have:=zo c1;simpa using this)];simpa using c1
     ·obtain⟨id,ob,ho',hf'⟩:=hown;have hij:i*sz+j<(es.length+ys.length)*sz:=by
       have h1:=zo c1;rw[List.length_append,holds.1,hnews.1,← Nat.add_mul]at h1;exact h1
      rcases Nat.lt_or_ge id σ.length with hl|hl
      ·rw[List.getElem?_append_left hl]at ho';rw[zbG (by omega)]at hf';have:=hf'.lt (S.obj id ob ho');exact Nat.lt_irrefl _ this
      ·rw[List.getElem?_append_right hl]at ho';have e1:id=σ.length:=by have:=zo ho';simp at this;omega
       subst e1;simp at ho';subst ho';rw[zY]at hf';have:=hf'.2.2.1;dsimp only at this;omega
    ·rw[zY];rfl
  ·skip;rename_i tk es hes;obtain⟨hfit,htk,hK⟩:=h;rw[hes]at hvx;generalize hX:a.eval x=X at hvx;cases hvx with|own _ _ _ sz' n0 k1 k2 k3 k4 k5=>
   rw[htk]at k1;obtain⟨rfl,rfl⟩:sz=sz'∧es.length=n0:=by cases k1;exact⟨rfl,rfl⟩
   have hXv:=k5 rfl;rw[hXv]at k4;obtain⟨t1,t2,t3,t4⟩:=S.obj tk _ htk;obtain⟨olds,holds,hocells,hoone⟩:=src_rd P k4 k3;have hall:∀e'∈es++ys,e'.length=sz:=fun e' he'=>by exact(List.mem_append.1 he').elim (k3 _) (hysz _)
   have hlen:(es++ys).length=es.length+ys.length:=by simp
   by_cases hroom:es.length+ys.length<=(L tk).cap
   ·have hrun:=run_append_room' (P:=P) (w:=w) (ty:=o.type) (base:=if (L tk).nil then none else some (L tk).a) (n:=es.length) (cap:=(L tk).cap) ht hu hs hnews hroom;by_cases hnil:(L tk).nil=true
    ·skip;have hc0:=t2 hnil;have hes0:es=[]:=List.eq_nil_of_length_eq_zero (by omega);have hys0:ys=[]:=List.eq_nil_of_length_eq_zero (by omega);subst hes0;subst hys0;have hset:σ.set tk (.tok sz 0)=σ:=by
      obtain⟨hl,hh⟩:=List.getElem?_eq_some_iff.1 htk;have:σ[tk]=.tok sz 0:=hh;rw[← this];exact List.set_getElem_self hl
     simp only[List.append_nil,List.length_nil,Nat.add_zero,hset]at hK;have hrun':(Builtin.append_ #[t,u] o.type #[a.eval x,a.eval y]).run P w=.ok (.slice none 0 (L tk).cap) w:=by
      rw[hX,hXv,hnil]at *;simpa using hrun
     refine .same S (r:=.own tk []) (fin hrun') (.own tk [] _ sz 0 htk (Nat.le_refl _) (by simp) ?_ (fun _=>by rw[hnil];rfl)) hK;rw[hnil]at k4;simpa using k4
    ·have hnil':(L tk).nil=false:=by simpa using hnil
     rw[hnil']at hrun hXv k4;simp only[Bool.false_eq_true,if_false]at hrun hXv k4;by_cases hcap0:(L tk).cap=0
     ·have hes0:es=[]:=List.eq_nil_of_length_eq_zero (by omega);have hys0:ys=[]:=List.eq_nil_of_length_eq_zero (by omega);subst hes0;subst hys0;have hset:σ.set tk (.tok sz 0)=σ:=by
       obtain⟨hl,hh⟩:=List.getElem?_eq_some_iff.1 htk;have:σ[tk]=.tok sz 0:=hh;rw[← this];exact List.set_getElem_self hl
      simp only[List.append_nil,List.length_nil,Nat.add_zero,hset]at hK;have hn0:news=[]:=List.eq_nil_of_length_eq_zero (by rw[hnews.1];simp);have hrun':(Builtin.append_ #[t,u] o.type #[a.eval x,a.eval y]).run P w=.ok (.slice (some (L tk).a) 0 (L tk).cap) w:=by
       rw[hX,hXv];have:=hrun;rw[hn0]at this;simpa [storeCells] using this
      exact .same S (r:=.own tk []) (fin hrun') (.own tk [] _ sz 0 htk (Nat.le_refl _) (by simp) (by simpa using k4) (fun _=>by rw[hnil'];rfl)) hK
     ·obtain⟨A,hA⟩:∃A,A=(L tk).a:=⟨_,rfl⟩;rw[← hA]at k4;have hspot:=t3 hnil' (by omega);have haddr:(L tk).a=⟨(L tk).a.block,(L tk).a.off,none⟩:=by
       cases hA:(L tk).a with|mk b1 o1 s1=>rw[hA]at hspot;simp at hspot;rw[hspot]
      have hmulle:es.length*sz+ys.length*sz<=(L tk).cap*sz:=by rw[← Nat.add_mul];exact Nat.mul_le_mul_right _ hroom
      obtain⟨w',r,s1,S1,hws,hc,hk⟩:=ztY (P:=P) tk sz es.length news (es.length*sz) 0 w S htk hnil' hspot hnone (by omega) (by rw[hnews.1];omega);obtain⟨s2,S2⟩:=tok_fill S1 htk (m:=es.length+ys.length) (by omega) hroom;have s12:=s1.trans s2;have hrun':(Builtin.append_ #[t,u] o.type #[a.eval x,a.eval y]).run P w=.ok (.slice (some (L tk).a) (es.length+ys.length) (L tk).cap) w':=by
       rw[hX,hXv,hrun];have:(storeCells ((L tk).a.add (es.length*sz)) news).run P w=.ok () w':=by
        have e1:(L tk).a.add (es.length*sz)=⟨(L tk).a.block,(L tk).a.off+es.length*sz,none⟩:=by
         conv=>lhs;rw[haddr]
         exact zcI _ _ _
        rw[e1];exact r
       simp[this]
      refine⟨.own tk (es++ys),_,L,_,w',.inl (fin hrun'),s12,S2,.own tk (es++ys) _ sz (es.length+ys.length) (by simp[zo htk]) (by simp) hall ?_ (fun _=>by rw[hnil'];rfl),hK⟩;suffices hsuff:RD w' (Own L (σ.set tk (.tok sz (es.length+ys.length)))) (.slice (es++ys)) (.slice (some ⟨(L tk).a.block,(L tk).a.off,none⟩) (es++ys).length (L tk).cap) by
       rw[hlen,← haddr]at hsuff;exact hsuff
      refine RD.of_block (sz:=sz) (by rw[hlen];exact hroom) hall fun i e' j d hi hj=>?_;have hnotown:i*sz+j<(es.length+ys.length)*sz->¬Own L (σ.set tk (.tok sz (es.length+ys.length))) (L tk).a.block ((L tk).a.off+(i*sz+j)):=fun hlt hown=>by
       by_cases hil:i<es.length
       ·skip;rw[List.getElem?_append_left hil]at hi;cases k4 with
        | empty=>simp at hil
        | slice _ b1 o1 c1 sz1 vs g0 g1 g2 g3 g4=>
         have:sz1=sz:=by rw[← g2 e' (List.mem_of_getElem? hi),k3 e' (List.mem_of_getElem? hi)]
         subst this
         have hno:=(g3 i e' j d hi hj).2
         have hb1:=cell?_some_lt (g3 i e' j d hi hj).1
         have e1:b1=(L tk).a.block:=by rw[← hA]
         have e2:o1=(L tk).a.off:=by rw[← hA]
         rw[e1,e2]at hno
         rw[e1]at hb1
         exact hno (s12.own _ _ hb1 hown)
       ·obtain⟨id,ob,ho',hf'⟩:=hown;have hlow:es.length*sz<=i*sz:=Nat.mul_le_mul_right _ (by omega);have hin:zfw (L tk) (.tok sz es.length) (L tk).a.block ((L tk).a.off+(i*sz+j)):=⟨hnil',rfl,by omega,by rw[Nat.add_mul]at hlt;omega⟩;rcases zaA ho' with⟨rfl,rfl⟩|⟨hne,ho'⟩
        ·have:=hf'.2.2.1;omega
        ·exact S.apart id tk ob _ _ _ hne ho' htk hf' hin
      have hbase:(L tk).a.block<w.heap.size:=by
       have hq:(L tk).a.off+es.length*sz<(L tk).a.off+(L tk).cap*sz∨es.length=(L tk).cap:=by
        rcases Nat.lt_or_ge es.length (L tk).cap with h|h
        ·left;have:(es.length+1)*sz<=(L tk).cap*sz:=Nat.mul_le_mul_right _ h;rw[Nat.succ_mul]at this;omega
        ·right;omega
       rcases hq with hq|hq
       ·obtain⟨⟨u',hu'⟩,_⟩:=t4 hnil' _ (Nat.le_refl _) hq;exact cell?_some_lt hu'
       ·cases k4 with
        | empty=>simp at hq;omega
        | slice _ b1 o1 c1 sz1 vs g0 g1 g2 g3 g4=>
         have e1:b1=(L tk).a.block:=by rw[← hA]
         cases es with
         | nil=>exact absurd rfl g0
         | cons e0 es=>
          have l0:=k3 e0 (by simp)
          have:e0[0]? = some (e0[0]'(by omega)):=List.getElem?_eq_getElem _
          have:=cell?_some_lt (g3 0 e0 0 _ rfl this).1
          rw[← e1];exact this
      by_cases hil:i<es.length
      ·have hi':=hi;rw[List.getElem?_append_left hil]at hi';cases k4 with
       | empty=>simp at hil
       | slice _ b1 o1 c1 sz1 vs g0 g1 g2 g3 g4=>
        have:sz1=sz:=by rw[← g2 e' (List.mem_of_getElem? hi'),k3 e' (List.mem_of_getElem? hi')]
        subst this
        obtain⟨hcell,hno⟩:=g3 i e' j d hi' hj
        have hrd:=g4 i e' j d hi' hj
        have e1:b1=(L tk).a.block:=by rw[← hA]
        have e2:o1=(L tk).a.off:=by rw[← hA]
        have hb1:=cell?_some_lt hcell
        rw[e1,e2]at hcell hno
        rw[e1]at hb1
        exact⟨_,(s12.cell _ _ hb1 hno).trans hcell,fun hown=>hno (s12.own _ _ hb1 hown),s12.rd hrd⟩
      ·have hi':=hi;rw[List.getElem?_append_right (by omega)]at hi';obtain⟨v,c1,c2,_⟩:=hncells _ e' j d hi' hj;have hlt1:=zo c1;have e1:i*sz=(i-es.length)*sz+es.length*sz:=by rw[← Nat.add_mul];congr 1;omega
       refine⟨v,?_,hnotown (by rw[hnews.1]at hlt1;rw[Nat.add_mul];omega),s12.rd c2⟩;have:=hc _ v c1;rw[show(L tk).a.off+(i*sz+j)=(L tk).a.off+es.length*sz+0+((i-es.length)*sz+j) by omega];exact this
   ·have hrun:=run_append_grow' (P:=P) (w:=w) (ty:=o.type) (base:=if (L tk).nil then none else some (L tk).a) (n:=es.length) (cap:=(L tk).cap) ht hu hi hz1 hisz hb (hb▸hb0) hnews holds hroom hfit;have hrun':=hrun;rw[← hXv,← hX]at hrun';have hsize:=size_new holds.1 hroom;have hge:=grownCap_ge w (es.length+ys.length) (L tk).cap e;generalize hgc:grownCap w (es.length+ys.length) (L tk).cap e=gc at *;generalize hcs:olds.toArray++news.toArray++Builtin.zeroCells z.cells (gc-(es.length+ys.length))=cells at *;obtain⟨S1,s1⟩:=S.drew (w.drawn+1);obtain⟨s2,S2⟩:=tok_move (w:=w.drew) S1 htk (m:=es.length+ys.length) (by omega) cells e gc hge hsize;have s12:=s1.trans s2;refine⟨.own tk (es++ys),_,_,_,_,.inl (fin hrun'),s12,S2,.own tk (es++ys) _ sz (es.length+ys.length) (by simp[zo htk]) (by simp) hall ?_ (fun _=>?_),hK⟩
    ·suffices hsuff:RD (w.drew.alloc (.cells cells e)) (Own (zka L tk { a:=⟨w.heap.size,0,none⟩,cap:=gc }) (σ.set tk (.tok sz (es.length+ys.length)))) (.slice (es++ys)) (.slice (some ⟨w.heap.size,0,none⟩) (es++ys).length gc) by
      rw[hlen]at hsuff;exact hsuff
     refine RD.of_block (sz:=sz) (by rw[hlen];exact hge) hall fun i e' j d hi hj=>?_;obtain⟨v,c1,c2,_⟩:=(zus hocells hncells holds.1).step s12 i e' j d hi hj;have hij:i*sz+j<(es.length+ys.length)*sz:=by
      have h1:=zo c1;rw[List.length_append,holds.1,hnews.1,← Nat.add_mul]at h1;exact h1
     refine⟨v,?_,fun hown=>?_,c2⟩
     ·rw[Nat.zero_add];have:=cell?_alloc_any w.drew cells e (0,0) (i*sz+j);refine this.trans ?_;rw[← hcs,Array.getElem?_append_left (by have:=zo c1;simpa using this)];simpa using c1
     ·obtain⟨id,ob,ho',hf'⟩:=hown;rcases zaA ho' with⟨rfl,rfl⟩|⟨hne,ho'⟩
      ·rw[zY]at hf';have:=hf'.2.2.1;dsimp only at this;omega
      ·rw[zbG hne]at hf';have:=hf'.lt (S.obj id ob ho');exact Nat.lt_irrefl _ this
    ·rw[zY];rfl
  ·exact h.elim
 ·exact h.elim
end
section
variable {P:Program} {w:World} {L:Nat->Loc} {σ:List AObj}
theorem add_tok (S:Sim L σ w)(sz n:Nat)(a:Option Addr)(ha:a=none->n=0)(hs:0<n->∀b,a=some b->b.spot=none) :
  let l:Loc:={ a:=a.getD ⟨0,0,none⟩,nil:=a.isNone,cap:=n }
  zdx L σ w (zka L σ.length l) (σ++[.tok sz n]) w/\Sim (zka L σ.length l) (σ++[.tok sz n]) w:=by
 intro l;have hno:∀b o,¬zfw l (.tok sz n) b o:=fun b o h=>by
  obtain⟨_,_,h2,h3⟩:=h;have e:l.cap=n:=rfl;rw[e]at h3;omega
 have get:∀ {id x},(σ++[.tok sz n])[id]? = some x->(id<σ.length∧σ[id]? = some x)∨(id=σ.length/\x=.tok sz n):=fun{id x} h=>by
  rcases Nat.lt_or_ge id σ.length with hl|hl
  ·rw[List.getElem?_append_left hl]at h;exact .inl ⟨hl,h⟩
  ·rw[List.getElem?_append_right hl]at h;have hlt:=zo h;simp at hlt;have:id=σ.length:=by omega
   subst this;simp at h;exact .inr ⟨rfl,h.symm⟩
 have hL:∀id,id<σ.length->zka L σ.length l id=L id:=fun id h=>zbG (by omega);have own:∀b o,Own (zka L σ.length l) (σ++[.tok sz n]) b o->Own L σ b o:=fun b o ⟨id,x,hx,hf⟩=>by
  rcases get hx with⟨h1,h2⟩|⟨rfl,rfl⟩
  ·rw[hL id h1]at hf;exact⟨id,x,h2,hf⟩
  ·rw[zY]at hf;exact(hno _ _ hf).elim
 have st:zdx L σ w (zka L σ.length l) (σ++[.tok sz n]) w:=by
  refine⟨rfl,rfl,rfl,Nat.le_refl _,fun _ _ _=>rfl,fun _ _ _ _=>rfl,fun _ _ _ _=>rfl,fun b o _ h=>own b o h,by simp,fun id x hx=>?_⟩;have hid:=zo hx;exact .stay (by rw[List.getElem?_append_left hid];exact hx) (hL id hid)
 refine⟨st,⟨fun id x hx=>?_,fun i j x y b o hij hx hy hfx hfy=>?_⟩⟩
 ·rcases get hx with⟨h1,h2⟩|⟨rfl,rfl⟩
  ·rw[hL id h1];exact(S.obj id x h2).keep st (fun _ _ _=>⟨rfl,rfl⟩) (fun _ _=>rfl)
  ·rw[zY];refine⟨Nat.le_refl _,fun h=>?_,fun h1 h2=>?_,fun h1 o h2 h3=>?_⟩
   ·exact ha (by simpa [l] using h)
   ·cases a with
    | none=>simp[l]at h1
    | some b=>exact hs h2 b rfl
   ·have e:l.cap=n:=rfl;rw[e]at h3;omega
 ·rcases get hx with⟨h1,h2⟩|⟨rfl,rfl⟩
  ·rw[hL i h1]at hfx;rcases get hy with⟨g1,g2⟩|⟨rfl,rfl⟩
   ·rw[hL j g1]at hfy;exact S.apart i j x y b o hij h2 g2 hfx hfy
   ·rw[zY]at hfy;exact hno _ _ hfy
  ·rw[zY]at hfx;exact hno _ _ hfx
theorem zmx {es:List (List D)}{v:Value}(h:RV w L σ (.exact es) v):∃a,v=.slice a es.length es.length/\RD w (Own L σ) (.slice es) v/\(a=none->es.length=0)/\(0<es.length->∀b,a=some b->b.spot=none):=by
 cases h with
 | exact _ a h=>
  refine⟨a,rfl,h,?_,?_⟩
  ·rintro rfl
   cases h with
   | empty=>rfl
  ·rintro hp b rfl
   cases h with
   | empty=>simp at hp
   | slice=>rfl
theorem add_obj (S:Sim L σ w)(l:Loc)(x:AObj)(hno:∀b o,¬zfw l x b o)(hok:∀ {L' σ'},zdx L σ w L' σ' w->zsQ w L' σ' l x):zdx L σ w (zka L σ.length l) (σ++[x]) w/\Sim (zka L σ.length l) (σ++[x]) w:=by
 have get:∀ {id y},(σ++[x])[id]? = some y->(id<σ.length∧σ[id]? = some y)∨(id=σ.length/\y=x):=fun{id y} hy=>by
  rcases Nat.lt_or_ge id σ.length with hl|hl
  ·rw[List.getElem?_append_left hl]at hy;exact .inl ⟨hl,hy⟩
  ·rw[List.getElem?_append_right hl]at hy;have e:id=σ.length:=by have:=zo hy;simp at this;omega
   subst e;simp at hy;exact .inr ⟨rfl,hy.symm⟩
 have st:zdx L σ w (zka L σ.length l) (σ++[x]) w:=
  ⟨rfl,rfl,rfl,Nat.le_refl _,fun _ _ _=>rfl,fun _ _ _ _=>rfl,fun _ _ _ _=>rfl,fun p q _ hf=>by
   obtain⟨id,ob,ho,hf⟩:=hf;rcases get ho with⟨hl,ho⟩|⟨rfl,rfl⟩
   ·rw[zbG (by omega)]at hf;exact⟨id,ob,ho,hf⟩
   ·rw[zY]at hf;exact absurd hf (hno _ _),by simp,fun id ob hob=>by
    have hl:=zo hob;exact .stay (by rw[List.getElem?_append_left hl];exact hob) (zbG (by omega))⟩
 refine⟨st,⟨fun id ob hob=>?_,fun i j p q b' o' hij hp hq hfp hfq=>?_⟩⟩
 ·rcases get hob with⟨hl,hob⟩|⟨rfl,rfl⟩
  ·rw[zbG (by omega)];exact(S.obj id ob hob).keep st (fun _ _ _=>⟨rfl,rfl⟩) (fun _ _=>rfl)
  ·rw[zY];exact hok st
 ·rcases get hp with⟨hl,hp1⟩|⟨e1,e2⟩
  ·rcases get hq with⟨hl',hq1⟩|⟨e1,e2⟩
   ·rw[zbG (by omega)]at hfp hfq;exact S.apart i j p q b' o' hij hp1 hq1 hfp hfq
   ·rw[e1,zY,e2]at hfq;exact hno _ _ hfq
  ·rw[e1,zY,e2]at hfp;exact hno _ _ hfp
theorem add_row (S:Sim L σ w)(sz:Nat)(hsz:0<sz)(a:Option Addr) :
  zdx L σ w (zka L σ.length { a:=⟨0,0,none⟩ }) (σ++[.row 0 sz []]) w/\Sim (zka L σ.length { a:=⟨0,0,none⟩ }) (σ++[.row 0 sz []]) w ∧
   RV w (zka L σ.length { a:=⟨0,0,none⟩ }) (σ++[.row 0 sz []]) (.rsl σ.length 0 sz 0 0) (.slice a 0 0):=by
 obtain⟨st,S'⟩:=add_obj S { a:=⟨0,0,none⟩ } (.row 0 sz []) (fun b o hf=>by obtain⟨_,h1,h2⟩:=hf;dsimp only at h1 h2;omega)
  (fun _=>⟨hsz,⟨0,by simp,by simp⟩,by simp,fun h=>absurd h (by simp),fun o h1 h2=>by dsimp only at h1 h2;omega,by simp⟩)
 refine⟨st,S',.rsl σ.length 0 sz 0 0 a 0 ⟨_,List.getElem?_concat_length,.inl rfl⟩ (fun _ _ _ _=>Nat.zero_le _) (Nat.le_refl _) (Nat.le_refl _) (fun _=>rfl) (fun h=>absurd h (Nat.lt_irrefl _)) (fun sz' cs' e=>?_)⟩;rw[List.getElem?_concat_length]at e;cases e;rw[zY];exact⟨rfl,by simp,Nat.zero_le _,rfl,fun h=>absurd h (by simp)⟩
theorem box_retell' (S:Sim L σ w){id j:Nat}{cs:List AV}{c c':AV}(hx:σ[id]? = some (.box cs))(hj:cs[j]? = some c)(hc:∀v,w.cell? ⟨(L id).a.block,(L id).a.off+j,none⟩=some v->RV w L σ c' v) :
  zdx L σ w L (σ.set id (.box (cs.set j c'))) w/\Sim L (σ.set id (.box (cs.set j c'))) w:=by
 have hf:∀b o,zfw (L id) (.box (cs.set j c')) b o↔zfw (L id) (.box cs) b o:=fun b o=>by simp[zfw]
 have s:zdx L σ w L (σ.set id (.box (cs.set j c'))) w:=by
  refine⟨rfl,rfl,rfl,Nat.le_refl _,fun _ _ _=>rfl,fun _ _ _ _=>rfl,fun _ _ _ _=>rfl,fun c p _ h=>zvX hx (fun b o=>(hf b o).1) h,by simp,fun i y hy=>?_⟩;by_cases e:id=i
  ·subst e;rw[hx]at hy;cases hy;exact⟨.box (cs.set j c'),by simp[zo hx],fun _=>rfl,fun _ _=>rfl,fun _ _ e=>(by cases e),fun _ _ _ e=>(by cases e)⟩
  ·exact .stay (by rw[List.getElem?_set_ne e];exact hy) rfl
 refine⟨s,⟨fun i y hy=>?_,fun i k y z c p hij hy hz hfy hfz=>?_⟩⟩
 ·rcases zaA hy with⟨rfl,rfl⟩|⟨hne,hy⟩
  ·obtain⟨h0,h1,h2⟩:=S.obj _ _ hx;refine⟨h0,h1,fun k d hk=>?_⟩;rw[List.getElem?_set]at hk;split at hk
   ·rename_i e;subst e;split at hk
    ·cases hk;obtain⟨h3,v,h4,h5⟩:=h2 _ _ hj;exact⟨h3,v,h4,s.rv (hc v h4)⟩
    ·cases hk
   ·obtain⟨h3,v,h4,h5⟩:=h2 k d hk;exact⟨h3,v,h4,s.rv h5⟩
  ·exact(S.obj i y hy).keep s (fun _ _ _=>⟨rfl,rfl⟩) (fun _ _=>rfl)
 ·have key:∀ {i y},(σ.set id (.box (cs.set j c')))[i]? = some y->zfw (L i) y c p->∃y',σ[i]? = some y'∧zfw (L i) y' c p:=fun{i y} hy hfy=>by
   rcases zaA hy with⟨rfl,rfl⟩|⟨_,hy⟩
   ·exact⟨_,hx,(hf _ _).1 hfy⟩
   ·exact⟨y,hy,hfy⟩
  obtain⟨y',hy',hfy'⟩:=key hy hfy;obtain⟨z',hz',hfz'⟩:=key hz hfz;exact S.apart i k y' z' c p hij hy' hz' hfy' hfz'
theorem box_tok (S:Sim L σ w){id j:Nat}{cs:List AV}{es:List (List D)}(hx:σ[id]? = some (.box cs))(hj:cs[j]? = some (.exact es))(sz:Nat)(hes:∀e∈es,e.length=sz) :
  ∃L',zdx L σ w L' (σ.set id (.box (cs.set j (.own σ.length es)))++[.tok sz es.length]) w/\Sim L' (σ.set id (.box (cs.set j (.own σ.length es)))++[.tok sz es.length]) w:=by
 obtain⟨_,_,hcells⟩:=S.obj id _ hx;obtain⟨_,u,hu,hr⟩:=hcells j _ hj;obtain⟨a,hv',hrd,ha,hs⟩:=zmx hr;obtain⟨st,S2⟩:=add_tok S sz es.length a ha hs;have hid:=zo hx;have hx2:(σ++[AObj.tok sz es.length])[id]? = some (.box cs):=by rw[List.getElem?_append_left hid];exact hx
 have hval:∀v,w.cell? ⟨(L id).a.block,(L id).a.off+j,none⟩=some v->v=u:=fun v h=>by rw[hu]at h;exact(Option.some.inj h).symm
 obtain⟨s3,S3⟩:=box_retell' S2 hx2 hj (c':=.own σ.length es) (fun v hv=>by
  rw[zbG (by omega)]at hv;rw[hval v hv];refine .own _ _ _ sz es.length (by simp) (Nat.le_refl _) hes (st.rd hrd) fun _=>?_;rw[hv',zY];cases a<;>rfl)
 rw[List.set_append_left _ _ hid]at s3 S3;exact⟨_,st.trans s3,S3⟩
theorem box_row (S:Sim L σ w){id j:Nat}{cs:List AV}(hx:σ[id]? = some (.box cs))(hj:cs[j]? = some (.exact []))(sz:Nat)(hsz:0<sz) :
  ∃L',zdx L σ w L' (σ.set id (.box (cs.set j (.rsl σ.length 0 sz 0 0)))++[.row 0 sz []]) w/\Sim L' (σ.set id (.box (cs.set j (.rsl σ.length 0 sz 0 0)))++[.row 0 sz []]) w:=by
 obtain⟨_,_,hcells⟩:=S.obj id _ hx;obtain⟨_,u,hu,hr⟩:=hcells j _ hj;obtain⟨a,hv',hrd,ha,hs⟩:=zmx hr;obtain⟨st,S2,hrow⟩:=add_row S sz hsz a;have hid:=zo hx;have hx2:(σ++[AObj.row 0 sz []])[id]? = some (.box cs):=by rw[List.getElem?_append_left hid];exact hx
 have hval:∀v,w.cell? ⟨(L id).a.block,(L id).a.off+j,none⟩=some v->v=u:=fun v h=>by rw[hu]at h;exact(Option.some.inj h).symm
 obtain⟨s3,S3⟩:=box_retell' S2 hx2 hj (c':=.rsl σ.length 0 sz 0 0) (fun v hv=>by
  rw[zbG (by omega)]at hv;rw[hval v hv,hv'];exact hrow)
 rw[List.set_append_left _ _ hid]at s3 S3;exact⟨_,st.trans s3,S3⟩
theorem row_cut (S:Sim L σ w){t g sz lo hi:Nat}{cs:List AV}(hx:σ[t]? = some (.row g sz cs)){v:Value}(hv:RV w L σ (.rsl t g sz lo hi) v) :
  zdx L σ w (zka L t { a:=⟨(L t).a.block,(L t).a.off+lo*sz,none⟩,cap:=(L t).cap-lo }) (σ.set t (.row (g+1) sz ((cs.drop (lo*sz)).take ((hi-lo)*sz)))) w ∧
  Sim (zka L t { a:=⟨(L t).a.block,(L t).a.off+lo*sz,none⟩,cap:=(L t).cap-lo }) (σ.set t (.row (g+1) sz ((cs.drop (lo*sz)).take ((hi-lo)*sz)))) w ∧
  RV w (zka L t { a:=⟨(L t).a.block,(L t).a.off+lo*sz,none⟩,cap:=(L t).cap-lo }) (σ.set t (.row (g+1) sz ((cs.drop (lo*sz)).take ((hi-lo)*sz)))) (.rsl t (g+1) sz 0 (hi-lo)) v:=by
 cases hv with|rsl _ _ _ _ _ b c h1 h2 h3 h4 h5 h6 h7=>
 obtain⟨_,q2,q3,q4,q5⟩:=h7 sz cs hx;obtain⟨p0,⟨n0,p1,p1'⟩,psc,plt,pall,pcells⟩:=S.obj t _ hx;have hsub:lo*sz+(hi-lo)*sz=hi*sz:=by rw[← Nat.add_mul];congr 1;omega
 have hmulc:lo*sz+((L t).cap-lo)*sz=(L t).cap*sz:=by rw[← Nat.add_mul];congr 1;omega
 have hl:((cs.drop (lo*sz)).take ((hi-lo)*sz)).length=(hi-lo)*sz:=by rw[List.length_take,List.length_drop];omega
 obtain⟨st,S'⟩:=zzV S hx { a:=⟨(L t).a.block,(L t).a.off+lo*sz,none⟩,cap:=(L t).cap-lo } ((cs.drop (lo*sz)).take ((hi-lo)*sz)) (.inl rfl)
  (fun b' o' hf=>.inl ⟨hf.1,by have:=hf.2.1;dsimp only at this;omega,by have:=hf.2.2;dsimp only at this;omega⟩) (fun htr=>by
   refine⟨p0,⟨hi-lo,hl,by dsimp only;omega⟩,fun c hc=>psc c (List.mem_of_mem_drop (List.mem_of_mem_take hc)),fun h=>by dsimp only at h ⊢;exact plt (by omega),fun o' h1 h2=>?_,fun j d hj=>?_⟩
   ·dsimp only at h1 h2 ⊢;exact pall o' (by omega) (by omega)
   ·dsimp only;rw[List.getElem?_take]at hj;split at hj
    ·rw[List.getElem?_drop]at hj;obtain⟨v,k1,k2⟩:=pcells _ d hj;exact⟨v,by rw[Nat.add_assoc];exact k1,htr _ _ k2⟩
    ·cases hj)
 refine⟨st,S',?_⟩;have hget:(σ.set t (.row (g+1) sz ((cs.drop (lo*sz)).take ((hi-lo)*sz))))[t]? = some (.row (g+1) sz ((cs.drop (lo*sz)).take ((hi-lo)*sz))):=by simp[zo hx]
 have:=RV.rsl (w:=w) (L:=zka L t { a:=⟨(L t).a.block,(L t).a.off+lo*sz,none⟩,cap:=(L t).cap-lo }) (σ:=σ.set t (.row (g+1) sz ((cs.drop (lo*sz)).take ((hi-lo)*sz)))) t (g+1) sz 0 (hi-lo) b c ⟨_,hget,.inl rfl⟩ (fun g2 sz2 cs2 e=>by rw[hget]at e;cases e;omega) (Nat.zero_le _) (by omega) h5 h6 (fun sz' cs' e=>by
  rw[hget]at e;cases e;rw[zY];refine⟨rfl,by rw[hl];omega,by dsimp only;omega,by dsimp only;omega,fun hlt=>?_⟩;dsimp only at hlt ⊢;rw[q5 (by omega)];simp)
 simpa using this
theorem row_retell (S:Sim L σ w){id j g sz:Nat}{cs:List AV}{c c':AV}(hx:σ[id]? = some (.row g sz cs))(hj:cs[j]? = some c)(hsc:sc c'=true)(hc:∀v,RV w L σ c v->RV w L σ c' v) :
  zdx L σ w L (σ.set id (.row g sz (cs.set j c'))) w/\Sim L (σ.set id (.row g sz (cs.set j c'))) w:=by
 have hf:∀b o,zfw (L id) (.row g sz (cs.set j c')) b o↔zfw (L id) (.row g sz cs) b o:=fun b o=>Iff.rfl;have s:zdx L σ w L (σ.set id (.row g sz (cs.set j c'))) w:=by
  refine⟨rfl,rfl,rfl,Nat.le_refl _,fun _ _ _=>rfl,fun _ _ _ _=>rfl,fun _ _ _ _=>rfl,fun c p _ h=>zvX hx (fun b o=>(hf b o).1) h,by simp,fun i y hy=>?_⟩;by_cases e:id=i
  ·subst e;rw[hx]at hy;cases hy;exact⟨.row g sz (cs.set j c'),by simp[zo hx],fun _=>rfl,fun _ _=>rfl,fun _ _ e=>(by cases e),fun g0 sz0 c0 e=>by cases e;exact .inr ⟨g,_,rfl,Nat.le_refl _,fun _=>⟨rfl,by simp⟩⟩⟩
  ·exact .stay (by rw[List.getElem?_set_ne e];exact hy) rfl
 refine⟨s,⟨fun i y hy=>?_,fun i k y z c p hij hy hz hfy hfz=>?_⟩⟩
 ·rcases zaA hy with⟨rfl,rfl⟩|⟨hne,hy⟩
  ·obtain⟨h0,h1,hsc0,hs,h2,h3⟩:=S.obj _ _ hx;refine⟨h0,by simpa using h1,fun d hd=>?_,by simpa using hs,h2,fun k d hk=>?_⟩
   ·rcases List.mem_or_eq_of_mem_set hd with h|rfl
    ·exact hsc0 d h
    ·exact hsc
   ·rw[List.getElem?_set]at hk;split at hk
    ·rename_i e;subst e;split at hk
     ·cases hk;obtain⟨v,h4,h5⟩:=h3 _ _ hj;exact⟨v,h4,s.rv (hc v h5)⟩
     ·cases hk
    ·obtain⟨v,h4,h5⟩:=h3 k d hk;exact⟨v,h4,s.rv h5⟩
  ·exact(S.obj i y hy).keep s (fun _ _ _=>⟨rfl,rfl⟩) (fun _ _=>rfl)
 ·have key:∀ {i y},(σ.set id (.row g sz (cs.set j c')))[i]? = some y->zfw (L i) y c p->∃y',σ[i]? = some y'∧zfw (L i) y' c p:=fun{i y} hy hfy=>by
   rcases zaA hy with⟨rfl,rfl⟩|⟨_,hy⟩
   ·exact⟨_,hx,(hf _ _).1 hfy⟩
   ·exact⟨y,hy,hfy⟩
  obtain⟨y',hy',hfy'⟩:=key hy hfy;obtain⟨z',hz',hfz'⟩:=key hz hfz;exact S.apart i k y' z' c p hij hy' hz' hfy' hfz'
end
section
variable {P:Program} {o:Oper} {i:I} {fr:zW} {σ:List AObj} {K:KT} {L:Nat->Loc} {w:World} {a:Act}
def SrcA (P:Program) (w:World) (L:Nat->Loc) (σ:List AObj) (sz:Nat) (v:Value) (m:Nat) (ys:List AV):Prop:=
 ∃news,zxh P w sz v m news/\RVs w L σ ys news/\(∀u∈news,u.oneCell'=true)/\∀c∈ys,sc c=true
theorem srcA_rd {es:List (List D)}{v:Value}{sz:Nat}(hsz:∀e∈es,e.length=sz)(h:∃news,zxh P w sz v es.length news/\zkb w (Own L σ) sz es news/\(∀u∈news,u.oneCell'=true)):SrcA P w L σ sz v es.length (es.flatten.map .d):=by
 obtain⟨news,h1,h2,h3⟩:=h;have hfl:∀(l:List (List D)),(∀e∈l,e.length=sz)->l.flatten.length=l.length*sz:=by
  intro l;induction l with
  | nil=>simp
  | cons e l ih=>intro h;simp only[List.flatten_cons,List.length_append,List.length_cons,Nat.succ_mul];rw[ih fun e he=>h e (List.mem_cons_of_mem _ he),h e List.mem_cons_self];omega
 have hget:∀(l:List (List D)),(∀e∈l,e.length=sz)->∀(k:Nat) d,l.flatten[k]? = some d->∃i e j,l[i]? = some e/\e[j]? = some d/\k=i*sz+j:=by
  intro l;induction l with
  | nil=>intro _ k d h;simp at h
  | cons e l ih=>
   intro h k d hk
   have he:=h e List.mem_cons_self
   simp only[List.flatten_cons]at hk
   rcases Nat.lt_or_ge k sz with hlt|hge
   ·rw[List.getElem?_append_left (by omega)]at hk
    exact⟨0,e,k,rfl,hk,by simp⟩
   ·rw[List.getElem?_append_right (by omega)]at hk
    obtain⟨i,e',j,c1,c2,c3⟩:=ih (fun e he=>h e (List.mem_cons_of_mem _ he)) _ d hk
    exact⟨i+1,e',j,c1,c2,by rw[Nat.succ_mul];omega⟩
 refine⟨news,h1,⟨by rw[h1.1,List.length_map,hfl es hsz],fun k c u hc hu=>?_⟩,h3,fun c hc=>?_⟩
 ·simp only[List.getElem?_map,Option.map_eq_some_iff]at hc;obtain⟨d,hd,rfl⟩:=hc;obtain⟨i,e,j,c1,c2,rfl⟩:=hget es hsz k d hd;obtain⟨v',c3,c4,_⟩:=h2 i e j d c1 c2;rw[hu]at c3;cases c3;exact .d _ _ c4
 ·obtain⟨d,_,rfl⟩:=List.mem_map.1 hc;rfl
theorem row_cells (S:Sim L σ w){t g sz:Nat}{cs:List AV}(hx:σ[t]? = some (.row g sz cs))(lo n:Nat)(hle:(lo+n)*sz<=cs.length) :
  ∃news:List Value,news.length=n*sz/\RVs w L σ ((cs.drop (lo*sz)).take (n*sz)) news/\(∀u∈news,u.oneCell'=true)/\∀k u,news[k]? = some u->w.cell? ⟨(L t).a.block,(L t).a.off+lo*sz+k,none⟩=some u:=by
 obtain⟨_,_,hsc,_,_,hcells⟩:=S.obj t _ hx;rw[Nat.add_mul]at hle;have hat:∀k,k<n*sz->∃u,w.cell? ⟨(L t).a.block,(L t).a.off+lo*sz+k,none⟩=some u/\u.oneCell'=true/\∀c,cs[lo*sz+k]? = some c->RV w L σ c u:=fun k hk=>by
  have hc:cs[lo*sz+k]? = some (cs[lo*sz+k]'(by omega)):=List.getElem?_eq_getElem _;obtain⟨u,h1,h2⟩:=hcells _ _ hc;rw[← Nat.add_assoc]at h1;exact⟨u,h1,h2.one (hsc _ (List.mem_of_getElem? hc)),fun c hc'=>by rw[hc]at hc';cases hc';exact h2⟩
 refine⟨(List.range (n*sz)).map fun k=>(w.cell? ⟨(L t).a.block,(L t).a.off+lo*sz+k,none⟩).getD undef,by simp,⟨by simp;omega,fun k c u hc hu=>?_⟩,fun u hu=>?_,fun k u hu=>?_⟩
 ·have hk:k<n*sz:=by have:=zo hu;simpa using this
  rw[List.getElem?_take,if_pos hk,List.getElem?_drop]at hc;obtain⟨u',h1,_,h3⟩:=hat k hk;simp[hk,h1]at hu;subst hu;exact h3 c hc
 ·simp at hu;obtain⟨k,hk,rfl⟩:=hu;obtain⟨u',h1,h2,_⟩:=hat k hk;rw[h1];exact h2
 ·have hk:k<n*sz:=by have:=zo hu;simpa using this
  obtain⟨u',h1,_,_⟩:=hat k hk;simp[hk,h1]at hu;subst hu;exact h1
theorem row_src (S:Sim L σ w){t g sz lo hi:Nat}{cs:List AV}{v:Value}(hv:RV w L σ (.rsl t g sz lo hi) v)(hx:σ[t]? = some (.row g sz cs)) :
  ∃news,zxh P w sz v (hi-lo) news/\RVs w L σ ((cs.drop (lo*sz)).take ((hi-lo)*sz)) news/\(∀u∈news,u.oneCell'=true):=by
 obtain⟨b,c,rfl,_,hlh,hle,hb,hb',_,hcur⟩:=hv.rsl_inv;obtain⟨_,q2,q3,q4,q5⟩:=hcur sz cs hx;obtain⟨news,h1,h2,h3,h4⟩:=row_cells S hx lo (hi-lo) (by rw[show lo+(hi-lo)=hi by omega];exact q2);refine⟨news,⟨h1,fun w' hw=>⟨by simp[Builtin.lenOf],?_⟩⟩,h2,h3⟩;rcases Nat.eq_zero_or_pos (hi-lo)with h0|h0
 ·have:news=[]:=List.eq_nil_of_length_eq_zero (by rw[h1,h0];simp);subst this;cases b with
  | none=>simp[Builtin.firstCells,h0]
  | some b=>simp[Builtin.firstCells,h0,loadCells,loadCellsFrom]
 ·rw[q5 (by omega)];have:=run_loadCells_list (P:=P) w' ⟨(L t).a.block,(L t).a.off+lo*sz,none⟩ news (fun j u hj=>by rw[zcI,cell?_heap hw];exact h4 j u hj);rw[h1]at this;simp[Builtin.firstCells,this]
theorem zub (id g sz:Nat)(cs:List AV):∀(xs:List AV) (vs:List Value) (off i:Nat) (w:World),Sim L σ w→σ[id]? = some (.row g sz cs)->RVs w L σ xs vs->(∀v∈vs,v.oneCell'=true)->(∀c∈xs,sc c=true) →
  cs.length<=off+i->off+i+vs.length<=(L id).cap*sz →
  ∃w',(storeCells ⟨(L id).a.block,(L id).a.off+off,none⟩ vs i).run P w=.ok () w'∧zdx L σ w L σ w'∧Sim L σ w' ∧
   (∀k v,vs[k]? = some v->w'.cell? ⟨(L id).a.block,(L id).a.off+off+i+k,none⟩=some v) ∧
   (∀p,(p.block≠(L id).a.block∨p.off<(L id).a.off+off+i∨p.spot≠none)->w'.cell? p=w.cell? p)
 | [],[],off,i,w,S,_,_,_,_,_,_=>⟨w,by simp[storeCells],zdx.refl _ _ _,S,by simp,fun _ _=>rfl⟩
 | [],v::vs,_,_,_,_,_,hv,_,_,_,_=>by have:=hv.1;simp at this
 | x::xs,[],_,_,_,_,_,hv,_,_,_,_=>by have:=hv.1;simp at this
 | x::xs,v::vs,off,i,w,S,hx,hv,hone,hsc,hlo,hhi=>by
  simp only[List.length_cons]at hhi;have hxv:=hv.2 0 x v rfl rfl;obtain⟨s1,S1⟩:=row_store S hx (j:=off+i) (by omega) hxv (hsc x (by simp));have e:σ.set id (.row g sz (cs.set (off+i) x))=σ:=by
   have e0:cs.set (off+i) x=cs:=List.set_eq_of_length_le (by omega);rw[e0];obtain⟨hl,hh⟩:=List.getElem?_eq_some_iff.1 hx;rw[← hh];exact List.set_getElem_self hl
  rw[e,← Nat.add_assoc]at s1 S1;obtain⟨_,_,_,_,h3,_⟩:=S.obj id _ hx;obtain⟨⟨u,hu⟩,hf⟩:=h3 ((L id).a.off+off+i) (by omega) (by omega);obtain⟨w',r,s2,S2,hc,hk⟩:=zub id g sz cs xs vs off (i+1) _ S1 hx ⟨by have:=hv.1;simpa using this,fun j b z hb hz=>s1.rv (hv.2 (j+1) b z hb hz)⟩ (fun v hv=>hone v (by simp[hv])) (fun c hc=>hsc c (by simp[hc])) (by omega) (by omega);have ho:=hone v (by simp);have hst:(store ((Addr.mk (L id).a.block ((L id).a.off+off) none).add i) v).run P w=.ok () (w.setCell ⟨(L id).a.block,(L id).a.off+off+i,none⟩ v):=by
   rw[zcI];cases v<;>first|(simp[Value.oneCell']at ho;done)|simp[store,Sem.run,hu,hf]
  refine⟨w',by rw[storeCells];simp[hst,r],s1.trans s2,S2,fun k x hk'=>?_,fun p hp=>?_⟩
  ·cases k with
   | zero=>
    simp at hk';subst hk'
    rw[hk _ (.inr (.inl (by dsimp only;omega)))]
    exact World.cell?_setCell_same w _ _ hu
   | succ k=>
    simp at hk'
    have:=hc k x hk'
    rw[show(L id).a.off+off+i+(k+1)=(L id).a.off+off+(i+1)+k by omega]
    exact this
  ·rw[hk p (Or.imp_right (Or.imp_left fun h=>by omega) hp)];refine World.cell?_setCell_other w _ _ v fun e=>?_;subst e;rcases hp with h|h|h
   ·exact h rfl
   ·dsimp only at h;omega
   ·exact h rfl
def RoomRun (P:Program) (w:World) (t u ty:TypeId) (vy:Value) (sz m:Nat) (news:List Value):Prop:=
 ∀(base:Option Addr) (n cap:Nat),n+m<=cap->(Builtin.append_ #[t,u] ty #[.slice base n cap,vy]).run P w =
   ((match base with|some a=>storeCells (a.add (n*sz)) news|none=>pure ()).run P w).andThen fun _ w'=>.ok (.slice base (n+m) cap) w'
def GrowRun (P:Program) (w:World) (t u ty e:TypeId) (z vy:Value) (sz bytes m:Nat) (news:List Value):Prop:=
 ∀(base:Option Addr) (n cap:Nat) (olds:List Value),zxh P w sz (.slice base n cap) n olds->¬n+m<=cap->(n+m)*bytes<=140737488355328->(Builtin.append_ #[t,u] ty #[.slice base n cap,vy]).run P w =
   .ok (.slice (some ⟨w.heap.size,0,none⟩) (n+m) (grownCap w (n+m) cap e)) (w.drew.alloc (.cells (olds.toArray++news.toArray++Builtin.zeroCells z.cells (grownCap w (n+m) cap e-(n+m))) e))
theorem zwn (S:Sim L σ w){t u e:TypeId}{x:AV}{vx vy:Value}{sz bytes m:Nat}{ys:List AV}{z:Value}{ty:TypeId}{news:List Value}
  (hsz:0<sz) (hzs:z.cells.size=sz) (hR:RoomRun P w t u ty vy sz m news) (hG:GrowRun P w t u ty e z vy sz bytes m news)
  (hvx:RV w L σ x vx) (hnw:news.length=m*sz) (hnrv:RVs w L σ ys news) (hnone:∀u∈news,u.oneCell'=true) (hysc:∀c∈ys,sc c=true) (h:zuU sz bytes x m ys σ K) :
  ∃r v L' σ' w',(Builtin.append_ #[t,u] ty #[vx,vy]).run P w=.ok v w'∧zdx L σ w L' σ' w'∧Sim L' σ' w'∧RV w' L' σ' r v/\K r σ':=by
 have hyl:ys.length=m*sz:=by rw[← hnw];exact hnrv.1.symm
 have size_new:∀ {olds:List Value} {n cap:Nat},olds.length=n*sz →
   (olds.toArray++news.toArray++Builtin.zeroCells z.cells (grownCap w (n+m) cap e-(n+m))).size=grownCap w (n+m) cap e*sz:=fun{olds n cap} hol=>by
  have hge:=grownCap_ge w (n+m) cap e;simp only[Array.size_append,List.size_toArray,size_zeroCells,hzs,hol,hnw,← Nat.add_mul];congr 1;omega
 unfold zuU at h;split at h
 ·skip;obtain⟨hfit,hK⟩:=h;generalize hes:([]:List (List D))=es0 at hvx;cases hvx with|exact _ b hrd=>
  subst hes;simp only[List.length_nil]at hrd ⊢;rcases Nat.eq_zero_or_pos m with hm|hm
  ·subst hm;have hys0:ys=[]:=List.eq_nil_of_length_eq_zero (by rw[hyl];simp);have hn0:news=[]:=List.eq_nil_of_length_eq_zero (by rw[hnw];simp);subst hys0;subst hn0;have hrun:=hR b 0 0 (by omega);have hrun':(Builtin.append_ #[t,u] ty #[.slice b 0 0,vy]).run P w=.ok (.slice b 0 0) w:=by
    rw[hrun];cases b<;>simp[storeCells]
   let l:Loc:={ a:=⟨0,0,none⟩,cap:=0 };have hno:∀p q,¬zfw l (.row 0 sz []) p q:=fun p q hf=>by
    obtain⟨_,h1,h2⟩:=hf;dsimp only[l]at h1 h2;omega
   have get:∀ {id ob},(σ++[AObj.row 0 sz []])[id]? = some ob->(id<σ.length∧σ[id]? = some ob)∨(id=σ.length/\ob=.row 0 sz []):=fun{id ob} hy=>by
    rcases Nat.lt_or_ge id σ.length with hl|hl
    ·rw[List.getElem?_append_left hl]at hy;exact .inl ⟨hl,hy⟩
    ·rw[List.getElem?_append_right hl]at hy;have e:id=σ.length:=by have:=zo hy;simp at this;omega
     subst e;simp at hy;exact .inr ⟨rfl,hy.symm⟩
   have st:zdx L σ w (zka L σ.length l) (σ++[.row 0 sz []]) w:=
    ⟨rfl,rfl,rfl,Nat.le_refl _,fun _ _ _=>rfl,fun _ _ _ _=>rfl,fun _ _ _ _=>rfl,fun p q _ hf=>by
     obtain⟨id,ob,ho,hf⟩:=hf;rcases get ho with⟨hl,ho⟩|⟨rfl,rfl⟩
     ·rw[zbG (by omega)]at hf;exact⟨id,ob,ho,hf⟩
     ·rw[zY]at hf;exact absurd hf (hno _ _),by simp,fun id ob hob=>by
      have hl:=zo hob;exact .stay (by rw[List.getElem?_append_left hl];exact hob) (zbG (by omega))⟩
   have S':Sim (zka L σ.length l) (σ++[.row 0 sz []]) w:=by
    refine⟨fun id ob hob=>?_,fun i j p q b' o' hij hp hq hfp hfq=>?_⟩
    ·rcases get hob with⟨hl,hob⟩|⟨rfl,rfl⟩
     ·rw[zbG (by omega)];exact(S.obj id ob hob).keep st (fun _ _ _=>⟨rfl,rfl⟩) (fun _ _=>rfl)
     ·rw[zY];refine⟨hsz,⟨0,by simp,by simp⟩,by simp,fun h=>by simp[l]at h,fun o h1 h2=>?_,by simp⟩;dsimp only[l]at h1 h2;omega
    ·rcases get hp with⟨hl,hp1⟩|⟨e1,e2⟩
     ·rcases get hq with⟨hl',hq1⟩|⟨e1,e2⟩
      ·rw[zbG (by omega)]at hfp hfq;exact S.apart i j p q b' o' hij hp1 hq1 hfp hfq
      ·rw[e1,zY,e2]at hfq;exact hno _ _ hfq
     ·rw[e1,zY,e2]at hfp;exact hno _ _ hfp
   refine⟨.rsl σ.length 0 sz 0 0,_,_,_,w,hrun',st,S',?_,hK⟩;refine .rsl σ.length 0 sz 0 0 b 0 ⟨_,List.getElem?_concat_length,.inl rfl⟩ (fun _ _ _ _=>Nat.zero_le _) (Nat.le_refl _) (Nat.le_refl _) (fun _=>rfl) (fun h=>absurd h (Nat.lt_irrefl _)) (fun sz' cs' e=>?_);rw[List.getElem?_concat_length]at e;cases e;rw[zY];exact⟨rfl,by simp,Nat.zero_le _,rfl,fun h=>absurd h (by simp[l])⟩
  ·have holds:zxh P w sz (.slice b 0 0) 0 []:=⟨by simp,fun w' _=>by cases b<;>simp[Builtin.lenOf,Builtin.firstCells,loadCells,loadCellsFrom]⟩;have hrun:=hG b 0 0 [] holds (by omega) (by simpa using hfit);have hsize:=size_new (olds:=[]) (n:=0) (cap:=0) (by simp);have hge:=grownCap_ge w (0+m) 0 e;generalize hgc:grownCap w (0+m) 0 e=gc at *;generalize hcs:([]:List Value).toArray++news.toArray++Builtin.zeroCells z.cells (gc-(0+m))=cells at *;obtain⟨S1,s1⟩:=S.drew (w.drawn+1);have hpre:cells.toList.take ys.length=news:=by
    rw[← hcs,hyl,← hnw];simp
   obtain⟨st,S',hr⟩:=new_row (w:=w.drew) S1 (cells:=cells) (cs:=ys) (by rw[hpre];exact⟨hnrv.1,fun i c v hc hv=>s1.rv (hnrv.2 i c v hc hv)⟩) e sz m gc hsz hyl (by omega) hsize hysc;refine⟨.rsl σ.length 0 sz 0 m,_,_,_,_,hrun,s1.trans st,S',?_,hK⟩;rw[Nat.zero_add];exact hr
 ·skip;rename_i t g s lo hi0;split at h
  ·rename_i g' s' cs hx;obtain⟨rfl,rfl,rfl,hlen,hfit,hK⟩:=h;obtain⟨b,c,rfl,hrow,hlh,hle,hbn,hbs,hgen,hcur⟩:=hvx.rsl_inv;obtain⟨_,q2,q3,q4,q5⟩:=hcur s cs hx;have ho:=S.obj t _ hx;obtain⟨o0,⟨n0,o1,o1'⟩,osc,olt,oall,ocells⟩:=ho;have hdl:(cs.drop (lo*s)).length=(hi0-lo)*s:=by rw[List.length_drop,hlen,Nat.sub_mul]
   have hnl:(cs.drop (lo*s)++ys).length=(hi0-lo+m)*s:=by rw[List.length_append,hdl,hyl,Nat.add_mul]
   have hscn:∀c∈cs.drop (lo*s)++ys,sc c=true:=fun c hc=>(List.mem_append.1 hc).elim (fun h=>osc c (List.mem_of_mem_drop h)) (hysc c);by_cases hroom:hi0-lo+m<=c
   ·have hrun:=hR b (hi0-lo) c hroom;have hst:∃w1,((match b with|some a=>storeCells (a.add ((hi0-lo)*s)) news|none=>pure ()).run P w)=.ok () w1/\zdx L σ w L σ w1/\Sim L σ w1 ∧
      (∀k v,news[k]? = some v->w1.cell? ⟨(L t).a.block,(L t).a.off+hi0*s+k,none⟩=some v)/\(∀p,p.off<(L t).a.off+hi0*s->w1.cell? p=w.cell? p):=by
     rcases Nat.eq_zero_or_pos m with hm|hm
     ·have hn0:news=[]:=List.eq_nil_of_length_eq_zero (by rw[hnw,hm];simp);subst hn0;exact⟨w,by cases b<;>simp[storeCells],zdx.refl _ _ _,S,by simp,fun _ _=>rfl⟩
     ·have hlt:lo<(L t).cap:=by omega
      rw[q5 hlt];have hmul:(hi0+m)*s<=(L t).cap*s:=Nat.mul_le_mul_right _ (by omega);rw[Nat.add_mul]at hmul;obtain⟨w1,r,s1,S1,h4,h5⟩:=zub (P:=P) t g' s cs ys news (hi0*s) 0 w S hx hnrv hnone hysc (by omega) (by rw[hnw];omega);refine⟨w1,?_,s1,S1,fun k v hk=>h4 k v hk,fun p hp=>h5 p (.inr (.inl hp))⟩;have e1:(Addr.mk (L t).a.block ((L t).a.off+lo*s) none).add ((hi0-lo)*s)=⟨(L t).a.block,(L t).a.off+hi0*s,none⟩:=by
       rw[zcI,Nat.sub_mul];have:lo*s<=hi0*s:=Nat.mul_le_mul_right _ hlh;congr 1;omega
      show(storeCells ((Addr.mk (L t).a.block ((L t).a.off+lo*s) none).add ((hi0-lo)*s)) news).run P w=_;rw[e1];exact r
    obtain⟨w1,r1,s1,S1,hnew,hold⟩:=hst;let l:Loc:={ a:=⟨(L t).a.block,(L t).a.off+lo*s,none⟩,cap:=(L t).cap-lo };have hmulc:lo*s+((L t).cap-lo)*s=(L t).cap*s:=by rw[← Nat.add_mul];congr 1;omega
    obtain⟨s2,S2⟩:=zzV S1 hx l (cs.drop (lo*s)++ys) (.inl rfl) (fun b' o' hf=>.inl ⟨hf.1,by have:=hf.2.1;dsimp only[l]at this;omega,by have:=hf.2.2;dsimp only[l]at this;omega⟩) (fun htr=>by
     obtain⟨p0,_,_,plt,pall,pcells⟩:=S1.obj t _ hx;refine⟨hsz,⟨hi0-lo+m,hnl,by dsimp only[l];omega⟩,hscn,fun h=>by dsimp only[l]at h ⊢;exact plt (by omega),fun o' h1 h2=>?_,fun j d hj=>?_⟩
     ·dsimp only[l]at h1 h2 ⊢;exact pall o' (by omega) (by omega)
     ·dsimp only[l];rcases Nat.lt_or_ge j (cs.drop (lo*s)).length with hlt|hge
      ·rw[List.getElem?_append_left hlt,List.getElem?_drop]at hj;obtain⟨v,h1,h2⟩:=pcells _ d hj;exact⟨v,by rw[Nat.add_assoc];exact h1,htr _ _ h2⟩
      ·rw[List.getElem?_append_right hge]at hj;have hlt:=zo hj;obtain⟨nv,hnv⟩:∃nv,news[j-(cs.drop (lo*s)).length]? = some nv:=⟨_,List.getElem?_eq_getElem (by rw[hnw];omega)⟩;refine⟨_,?_,htr _ _ (s1.rv (hnrv.2 _ d _ hj hnv))⟩;have:=hnew _ _ hnv;rw[hdl]at this;have e2:lo*s<=hi0*s:=Nat.mul_le_mul_right _ hlh;rw[← this];congr 1;rw[Nat.sub_mul];rw[hdl,Nat.sub_mul]at hge;congr 1;omega)
    refine⟨.rsl t (g'+1) s 0 (hi0-lo+m),.slice b (hi0-lo+m) c,_,_,w1,?_,s1.trans s2,S2,?_,hK⟩
    ·exact hrun.trans (congrArg (Result.andThen · _) r1)
    ·have hget:(σ.set t (.row (g'+1) s (cs.drop (lo*s)++ys)))[t]? = some (.row (g'+1) s (cs.drop (lo*s)++ys)):=by simp[zo hx]
     refine .rsl t (g'+1) s 0 (hi0-lo+m) b c ⟨_,hget,.inl rfl⟩ (fun g2 sz2 cs2 e=>by rw[hget]at e;cases e;omega) (Nat.zero_le _) (by omega) hbn hbs (fun sz' cs' e=>?_);rw[hget]at e;cases e;rw[zY];refine⟨rfl,by rw[hnl];omega,by dsimp only[l];omega,by dsimp only[l];omega,fun hlt=>?_⟩;dsimp only[l]at hlt ⊢;rw[q5 (by omega)];simp
   ·obtain⟨olds,holds,horv,hoone⟩:=row_src (P:=P) S hvx hx;have hrun:=hG b (hi0-lo) c olds holds hroom hfit;have hsize:=size_new (olds:=olds) (n:=hi0-lo) (cap:=c) holds.1;have hge:=grownCap_ge w (hi0-lo+m) c e;generalize hgc:grownCap w (hi0-lo+m) c e=gc at *;generalize hcs:olds.toArray++news.toArray++Builtin.zeroCells z.cells (gc-(hi0-lo+m))=cells at *;obtain⟨S1,s1⟩:=S.drew (w.drawn+1);let l:Loc:={ a:=⟨w.heap.size,0,none⟩,cap:=gc };have hcell:∀j,(w.drew.alloc (.cells cells e)).cell? ⟨w.heap.size,j,none⟩=cells[j]?:=fun j=>cell?_alloc_any w.drew cells e (0,0) j;have hdrop:(cs.drop (lo*s)).take ((hi0-lo)*s)=cs.drop (lo*s):=List.take_of_length_le (by omega);rw[hdrop]at horv;obtain⟨s2,S2⟩:=zzV (w:=w.drew) S1 hx l (cs.drop (lo*s)++ys) (.inr ⟨.cells cells e,rfl⟩) (fun b' o' hf=>.inr hf.1) (fun htr=>by
     refine⟨hsz,⟨hi0-lo+m,hnl,hge⟩,hscn,fun _=>by simp[l],fun o' h1 h2=>⟨?_,World.frozen?_alloc_at cells e _ o' rfl⟩,fun j d hj=>?_⟩
     ·dsimp only[l]at h1 h2 ⊢;have hlt:o'<cells.size:=by omega
      exact⟨cells[o'],by rw[hcell];exact Array.getElem?_eq_getElem hlt⟩
     ·dsimp only[l];rw[Nat.zero_add,hcell];rcases Nat.lt_or_ge j (cs.drop (lo*s)).length with hlt|hge'
      ·rw[List.getElem?_append_left hlt]at hj;have hov:olds[j]? = some (olds[j]'(by rw[holds.1];omega)):=List.getElem?_eq_getElem _;refine⟨_,?_,htr _ _ (s1.rv (horv.2 j d _ hj hov))⟩;rw[← hcs,Array.getElem?_append_left (by simp;rw[holds.1,hnw];omega),Array.getElem?_append_left (by simp;rw[holds.1];omega)];simpa using hov
      ·rw[List.getElem?_append_right hge']at hj;have hlt:=zo hj;obtain⟨nv,hnv⟩:∃nv,news[j-(cs.drop (lo*s)).length]? = some nv:=⟨_,List.getElem?_eq_getElem (by rw[hnw];omega)⟩;refine⟨_,?_,htr _ _ (s1.rv (hnrv.2 _ d _ hj hnv))⟩;rw[← hcs,Array.getElem?_append_left (by simp;rw[holds.1,hnw];omega),Array.getElem?_append_right (by simp;rw[holds.1];omega)];rw[hdl]at hnv;have e3:j-olds.toArray.size=j-(hi0-lo)*s:=by simp[holds.1]
       rw[e3,List.getElem?_toArray];exact hnv)
    refine⟨.rsl t (g'+1) s 0 (hi0-lo+m),_,_,_,_,hrun,s1.trans s2,S2,?_,hK⟩;have hget:(σ.set t (.row (g'+1) s (cs.drop (lo*s)++ys)))[t]? = some (.row (g'+1) s (cs.drop (lo*s)++ys)):=by simp[zo hx]
    refine .rsl t (g'+1) s 0 (hi0-lo+m) _ gc ⟨_,hget,.inl rfl⟩ (fun g2 sz2 cs2 e=>by rw[hget]at e;cases e;omega) (Nat.zero_le _) (by omega) (fun e=>by cases e) (fun _=>⟨_,_,rfl⟩) (fun sz' cs' e=>?_);rw[hget]at e;cases e;rw[zY];exact⟨rfl,by rw[hnl];omega,by dsimp only[l];omega,by dsimp only[l];omega,fun _=>by simp[l]⟩
  ·exact h.elim
 ·exact h.elim
theorem snd_appendR (S:Sim L σ w)(F:FR w L σ fr a.tmps){c:Call}{t u e:TypeId}{x y:Operand}{x' y':Opd}{sz bytes:Nat}{zz:List AV}{inf:TypeInfo}(ho:o.op=.call c)(hcal:c.callee=.builtin .append)(hat:c.argTypes.toList=[t,u])(hargs:c.args.toList=[x,y])
  (ht:P.underlying t=some (.slice e)) (hu:(∃e',P.underlying u=some (.slice e'))∨P.underlying u=some .string) (hs:sizeOf? P e=some sz) (hi:P.info? e=some inf) (hz:zsV P e=some zz) (hsz:0<sz) (hzl:zz.length=sz) (hb0:0<inf.bytes) (hb:inf.bytes=bytes)
  (hx:opd x=some x') (hy:opd y=some y') (h:zaQ P (.append true sz bytes zz x' y') fr σ K):zaH P o a L σ w K:=by
 have hargs':c.args=#[x,y]:=by apply Array.ext';simpa using hargs
 have hat':c.argTypes=#[t,u]:=by apply Array.ext';simpa using hat
 have hvx:=zU F hx;have hvy:=zU F hy;have fin:∀ {v w'},(Builtin.append_ #[t,u] o.type #[a.eval x,a.eval y]).run P w=.ok v w'→(execOp a.eval o).run P w=.ok (.value v) w':=fun{v w'} h1=>by
  simp[execOp,ho,resolve,hcal,hargs',hat',invoke,builtin,h1]
 have key:∀ {m ys},SrcA P w L σ sz (a.eval y) m ys->zuU sz bytes (ev fr x') m ys σ K->zaH P o a L σ w K:=fun{m ys} h1 h2=>by
  have hisz:inf.size=sz:=by simp only[sizeOf?,hi,Option.map_some,Option.some.injEq]at hs;exact hs
  obtain⟨inf',z,hi',hz1,hz2⟩:=zgV hz;rw[hi]at hi';cases hi';have hzs:z.cells.size=sz:=by have:=(mapM_some hz2).1;simp at this;omega
  obtain⟨news,hnews,hnrv,hnone,hysc⟩:=h1;obtain⟨r,v,L',σ',w',hrun,st,S',hr,hK⟩:=zwn (P:=P) (ty:=o.type) (t:=t) (u:=u) (e:=e) (vy:=a.eval y) (z:=z) S hsz hzs (fun base n cap hroom=>run_append_room' ht hu hs hnews hroom) (fun base n cap olds holds hroom hfit=>run_append_grow' ht hu hi hz1 hisz hb (hb▸hb0) hnews holds hroom hfit) hvx hnews.1 hnrv hnone hysc h2;exact⟨r,v,L',σ',w',.inl (fin hrun),st,S',hr,hK⟩
 simp only[zaQ,zhP]at h;split at h
 ·rename_i tt g s lo hi0 hid;rw[hid]at hvy;split at h
  ·rename_i g' s' cs hcs;obtain⟨rfl,rfl,rfl,h⟩:=h;obtain⟨news,h1,h2,h3⟩:=row_src (P:=P) S hvy hcs;obtain⟨_,_,osc,_,_,_⟩:=S.obj tt _ hcs;exact key ⟨news,h1,h2,h3,fun c hc=>osc c (List.mem_of_mem_drop (List.mem_of_mem_take hc))⟩ h
  ·exact h.elim
 ·split at h
  ·rename_i ys hys;obtain⟨hysz,h⟩:=h;exact key (srcA_rd hysz (zym (P:=P) S hvy hys hysz)) h
  ·exact h.elim
theorem rep_sc {z:Value}{zz:List AV}(h:z.cells.toList.mapM litS=some zz)(m:Nat):∀c∈rep zz m,sc c=true:=by
 have h1:∀c∈zz,sc c=true:=fun c hc=>by
  obtain⟨g1,g2⟩:=mapM_some h;obtain⟨i,hi⟩:=List.mem_iff_getElem?.1 hc;have hlt:=zo hi;have hv:z.cells.toList[i]? = some (z.cells.toList[i]'(by omega)):=List.getElem?_eq_getElem _;have:=g2 i _ c hv hi;unfold litS at this;split at this<;>first|(cases this;rfl)|(cases this;done)
 induction m with
 | zero=>intro c hc;cases hc
 | succ m ih=>intro c hc;simp only[rep]at hc;exact(List.mem_append.1 hc).elim (h1 c) (ih c)
theorem zqq {z:Value}{zz:List AV}(hr:RVs w L σ zz z.cells.toList){sz:Nat}(hsz:0<sz)(hl:zz.length=sz)(m:Nat):RVs w L σ (rep zz m) (Builtin.zeroCells z.cells m).toList:=by
 have hzs:z.cells.size=sz:=by have:=hr.1;simp at this;omega
 refine⟨by simp[zkd,Builtin.zeroCells,hl,hzs],fun i c v hc hv=>?_⟩;have hlt:i<m*sz:=by have:=zo hc;rw[zkd,hl]at this;exact this
 rw[rep_get zz sz hl hsz m i hlt]at hc;simp[Builtin.zeroCells,hzs,hlt]at hv;have hm:i % sz<sz:=Nat.mod_lt _ hsz;refine hr.2 (i % sz) c v hc ?_;rw[← hv];have:i % sz<z.cells.size:=by omega
 simp[this]
set_option maxRecDepth 100000 in
theorem zzT {t u e ty:TypeId}{k0:IntKind}{inf:TypeInfo}{z:Value}{sz bytes m:Nat}{base:Option Addr}{n cap:Nat}(ht:P.underlying t=some (.slice e))(hu:P.underlying u=some (.int k0))(hs:sizeOf? P e=some sz)(hi:P.info? e=some inf)(hz:inf.zero=some z)(hb:inf.bytes=bytes)
  (hwrap:IntKind.i64.wrap (m:Int)=m) (hfit:m*bytes<=140737488355328) (hroom:n+m<=cap) (hzs:z.cells.size=sz) (hsz:0<sz) :
 (Builtin.append_ #[t,u] ty #[.slice base n cap,.int .i64 m]).run P w =
   ((match base with|some a=>storeCells (a.add (n*sz)) (Builtin.zeroCells z.cells m).toList|none=>pure ()).run P w).andThen fun _ w'=>.ok (.slice base (n+m) cap) w':=by
 have h48:¬(281474976710656<(m:Int)*bytes):=by
  have:((m*bytes:Nat):Int)<=(140737488355328:Nat):=Int.ofNat_le.2 hfit;rw[Int.natCast_mul]at this;omega
 have h0:¬((m:Int)<0):=by omega
 have hzv:∀w',(zeroValue e).run P w'=.ok z w':=fun w'=>by simp[zeroValue,typeInfo,program,Sem.run,hi,hz]
 have hti:∀w',(typeInfo e).run P w'=.ok inf w':=fun w'=>by simp[typeInfo,program,Sem.run,hi]
 have hai:∀w',(asInt (.int .i64 m)).run P w'=.ok (m:Int) w':=fun w'=>by simp[asInt,asIntOf]
 by_cases hm:m*sz=0
 ·have:m=0:=by rcases Nat.mul_eq_zero.1 hm with h|h<;>omega
  subst this;simp at hwrap hai hroom;cases base<;>simp[Builtin.append_,run_underlying ht,run_underlying hu,zcc hs,hai,hwrap,hti,hb,hroom,Builtin.zeroCells,storeCells]
 ·cases base<;>simp[Builtin.append_,run_underlying ht,run_underlying hu,zcc hs,hai,hwrap,hti,hb,hroom,h48,h0,hm,hzv]
set_option maxRecDepth 100000 in
theorem zzU {t u e ty:TypeId}{k0:IntKind}{inf:TypeInfo}{z:Value}{sz bytes m:Nat}{base:Option Addr}{n cap:Nat}{olds:List Value}(ht:P.underlying t=some (.slice e))(hu:P.underlying u=some (.int k0))(hs:sizeOf? P e=some sz)(hi:P.info? e=some inf)(hz:inf.zero=some z)(hb:inf.bytes=bytes)
  (hwrap:IntKind.i64.wrap (m:Int)=m) (hfit:(n+m)*bytes<=140737488355328) (hb0:0<bytes) (hroom:¬n+m<=cap) (hzs:z.cells.size=sz) (hsz:0<sz) (ho:zxh P w sz (.slice base n cap) n olds) :
 (Builtin.append_ #[t,u] ty #[.slice base n cap,.int .i64 m]).run P w =
   .ok (.slice (some ⟨w.heap.size,0,none⟩) (n+m) (grownCap w (n+m) cap e)) (w.drew.alloc (.cells (olds.toArray++(Builtin.zeroCells z.cells m).toList.toArray++Builtin.zeroCells z.cells (grownCap w (n+m) cap e-(n+m))) e)):=by
 have hmul:m*bytes<=(n+m)*bytes:=Nat.mul_le_mul_right _ (by omega);have hm1:n+m<=(n+m)*bytes:=by
  have:(n+m)*1<=(n+m)*bytes:=Nat.mul_le_mul_left _ (by omega);omega
 have h48:¬(281474976710656<(m:Int)*bytes):=by
  have:((m*bytes:Nat):Int)<=(140737488355328:Nat):=Int.ofNat_le.2 (Nat.le_trans hmul hfit);rw[Int.natCast_mul]at this;omega
 have h0:¬((m:Int)<0):=by omega
 have hzv:∀w',(zeroValue e).run P w'=.ok z w':=fun w'=>by simp[zeroValue,typeInfo,program,Sem.run,hi,hz]
 have hti:∀w',(typeInfo e).run P w'=.ok inf w':=fun w'=>by simp[typeInfo,program,Sem.run,hi]
 have hai:∀w',(asInt (.int .i64 m)).run P w'=.ok (m:Int) w':=fun w'=>by simp[asInt,asIntOf]
 obtain⟨h3,h4⟩:=ho.2 w.drew rfl;have hg:=growslice_fits (need:=n+m) (old:=cap) (bytes:=bytes) (by omega) hfit;have hg':¬(281474976710656<Builtin.nextslicecap (n+m) cap*bytes):=by omega
 have hmax:¬(9223372036854775807<(n:Int)+m):=by omega
 by_cases hm:m*sz=0
 ·have:m=0:=by rcases Nat.mul_eq_zero.1 hm with h|h<;>omega
  subst this;have hai0:∀w',(asInt (.int .i64 0)).run P w'=.ok (0:Int) w':=fun w'=>by simp[asInt,asIntOf]
  have hw0:IntKind.i64.wrap 0=0:=hwrap;have hr0:¬n<=cap:=by omega
  have hx0:¬9223372036854775807<(n:Int):=by omega
  have hg0:¬281474976710656<Builtin.nextslicecap n cap*bytes:=hg';simp[Builtin.append_,run_underlying ht,run_underlying hu,zcc hs,hai0,hw0,hti,hb,hr0,hg0,hx0,Question.forced,h4,newRow,grownCap,hzv,Builtin.zeroCells]
 ·simp[Builtin.append_,run_underlying ht,run_underlying hu,zcc hs,hai,hwrap,hti,hb,hroom,h48,h0,hm,hzv,hg',hmax,Question.forced,h4,newRow,grownCap]
theorem snd_cap (S:Sim L σ w)(F:FR w L σ fr a.tmps){c:Call}{t e:TypeId}{x:Operand}{x':Opd}(ho:o.op=.call c)(hcal:c.callee=.builtin .cap)(hat:c.argTypes[0]? = some t)(hargs:c.args.toList=[x])(ht:P.underlying t=some (.slice e))(hx:opd x=some x')
  (h:zaQ P (.cap x') fr σ K):zaH P o a L σ w K:=by
 have hargs':c.args=#[x]:=by apply Array.ext';simpa using hargs
 have hv:=zU F hx;simp only[zaQ,capC]at h;split at h
 ·rename_i es hid;rw[hid]at hv;obtain⟨b,hX,_⟩:=zmx hv;refine .same S (r:=.d (.int .i64 es.length)) (v:=.int .i64 es.length) ?_ (.d _ _ (.int _ _)) h;simp[execOp,ho,resolve,hcal,hargs',invoke,builtin,Builtin.cap_,hat,hX,run_underlying ht,goInt]
 ·exact h.elim
theorem snd_appz (S:Sim L σ w)(F:FR w L σ fr a.tmps){c:Call}{t u e:TypeId}{k0:IntKind}{x y:Operand}{x' y':Opd}{sz bytes:Nat}{zz:List AV}{inf:TypeInfo}(ho:o.op=.call c)(hcal:c.callee=.builtin .append)(hat:c.argTypes.toList=[t,u])(hargs:c.args.toList=[x,y])
  (ht:P.underlying t=some (.slice e)) (hu:P.underlying u=some (.int k0)) (hs:sizeOf? P e=some sz) (hi:P.info? e=some inf) (hz:zsV P e=some zz) (hsz:0<sz) (hzl:zz.length=sz) (hb0:0<inf.bytes) (hb:inf.bytes=bytes)
  (hx:opd x=some x') (hy:opd y=some y') (h:zaQ P (.appz sz bytes zz x' y') fr σ K):zaH P o a L σ w K:=by
 have hargs':c.args=#[x,y]:=by apply Array.ext';simpa using hargs
 have hat':c.argTypes=#[t,u]:=by apply Array.ext';simpa using hat
 have hvx:=zU F hx;have hvy:=zU F hy;simp only[zaQ,appzC]at h;split at h
 ·rename_i k hid;rw[hid]at hvy;have hY:=hvy.int_inv;obtain⟨hk0,h⟩:=h;have hisz:inf.size=sz:=by simp only[sizeOf?,hi,Option.map_some,Option.some.injEq]at hs;exact hs
  obtain⟨inf',z,hi',hz1,hz2⟩:=zgV hz;rw[hi]at hi';cases hi';have hzs:z.cells.size=sz:=by have:=(mapM_some hz2).1;simp at this;omega
  have hzrv:=zrG hz2 (w:=w) (L:=L) (σ:=σ);obtain⟨m,rfl⟩:∃m:Nat,k=m:=⟨k.toNat,by omega⟩;simp only[Int.toNat_natCast]at h;have hfit:m*bytes<=140737488355328:=by
   unfold zuU at h;split at h
   ·exact h.1
   ·split at h
    ·obtain⟨_,_,_,_,hf,_⟩:=h;exact Nat.le_trans (Nat.mul_le_mul_right _ (by omega)) hf
    ·exact h.elim
   ·exact h.elim
  have hm48:m<=140737488355328:=by
   have:m*1<=m*bytes:=Nat.mul_le_mul_left _ (by omega);omega
  have hwrap:IntKind.i64.wrap (m:Int)=m:=by
   simp[IntKind.wrap,IntKind.bits,IntKind.signed];omega
  have hone:∀u∈(Builtin.zeroCells z.cells m).toList,u.oneCell'=true:=fun u hu=>by
   have hr:=zqq hzrv hsz hzl m;obtain⟨i,hi2⟩:=List.mem_iff_getElem?.1 hu;have hlt:=zo hi2;have hc:(rep zz m)[i]? = some ((rep zz m)[i]'(by rw[← hr.1];exact hlt)):=List.getElem?_eq_getElem _;exact(hr.2 i _ u hc hi2).one (rep_sc hz2 m _ (List.mem_of_getElem? hc))
  have hlen:(Builtin.zeroCells z.cells m).toList.length=m*sz:=by simp[Builtin.zeroCells,hzs]
  obtain⟨r,v,L',σ',w',hrun,st,S',hr,hK⟩:=zwn (P:=P) (ty:=o.type) (t:=t) (u:=u) (e:=e) (vy:=.int .i64 m) (z:=z) S hsz hzs
   (fun base n cap hroom=>zzT ht hu hs hi hz1 hb hwrap hfit hroom hzs hsz)
   (fun base n cap olds holds hroom hfit=>zzU ht hu hs hi hz1 hb hwrap hfit (hb▸hb0) hroom hzs hsz holds) hvx hlen (zqq hzrv hsz hzl m) hone (fun c hc=>rep_sc hz2 m c hc) h
  refine⟨r,v,L',σ',w',.inl ?_,st,S',hr,hK⟩;simp[execOp,ho,resolve,hcal,hargs',hat',invoke,builtin,hY,hrun]
 ·exact h.elim
end
end Go.AW
