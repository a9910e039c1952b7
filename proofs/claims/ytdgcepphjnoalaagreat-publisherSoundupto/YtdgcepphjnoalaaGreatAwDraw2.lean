/- A region that draws its order: one order told serves for all. -/
import Derived.Test.YtdgcepphjnoalaaGreatAwSnd9
import Derived.Test.YtdgcepphjnoalaaGreatAwSnd5
import Derived.Sort.LoopGhostIn
import Derived.RangeFuncRecord
import Derived.ReadAgain
import Derived.Below
import Derived.JoinedCond
import Derived.ProofKit
import Derived.OpenShut
set_option linter.all false
namespace Go.AW
variable {P:Program}
def pw {α:Type} (f:α→α->Bool):List α->Bool
 | []=>true
 | a::r=>r.all (f a)&&pw f r
theorem pw_spec {α:Type}{f:α→α->Bool}:∀ {l:List α},pw f l=true->l.Pairwise fun a b=>f a b=true
 | [],_=>.nil
 | a::r,h=>by
  simp only[pw,Bool.and_eq_true,List.all_eq_true]at h;exact .cons h.1 (pw_spec h.2)
def mask (cl:List Nat):List Nat->Nat
 | []=>0
 | j::r=>(2 ^ j ||| cl.getD j 0) ||| mask cl r
theorem mask_spec {cl:List Nat}{p:Nat}:∀ {a:List Nat},(mask cl a).testBit p=true->∃j∈a,p=j∨(cl.getD j 0).testBit p=true
 | [],h=>by simp[mask]at h
 | j::r,h=>by
  simp only[mask,Nat.testBit_or,Bool.or_eq_true]at h;rcases h with(h|h)|h
  ·rw[Nat.testBit_two_pow]at h;exact⟨j,List.mem_cons_self,.inl (by simpa using h:j=p).symm⟩
  ·exact⟨j,List.mem_cons_self,.inr h⟩
  ·obtain⟨k,hk,h'⟩:=mask_spec h;exact⟨k,List.mem_cons_of_mem _ hk,h'⟩
def linB (l:List Ai) (after:List (List Nat)) (cl:List Nat) (p q:Nat × List Nat):Bool:=
 !(p.1==q.1)&&!(after.getD p.1 []).contains q.1&&match l[p.1]?,l[q.1]? with
  | some x,some y=>zrO x y&&((cl.getD q.1 0).testBit p.1 || pairOk x y p.2 q.2)
  | _,_=>false
def linA (l:List Ai) (after:List (List Nat)) (cl:List Nat) (i:Nat):Bool:=
 (match Nat.ble cl.length after.length with
  | true=>(after.getD i []).all fun j=>decide (j<i) || (after.getD j []).isEmpty&&decide (j<after.length)
  | false=>(after.getD i []).all fun j=>Nat.blt j after.length&&Nat.blt (cl.getD (after.length+j) 0) (cl.getD (after.length+i) 0))&&(mask cl (after.getD i []) ||| cl.getD i 0==mask cl (after.getD i []))&&match l[i]? with
  | some x=>zrO x x
  | none=>false
def linOk (l:List Ai) (after:List (List Nat)) (lin:List (Nat × List Nat)) (cl:List Nat):Bool:=
 lin.length==after.length&&(List.range after.length).all (fun i=>(lin.map (·.1)).contains i&&linA l after cl i)&&lin.all (fun p=>decide (p.1<after.length))&&pw (linB l after cl) lin
structure zmU (l:List Ai) (after:List (List Nat)) (cl:List Nat) (lin:List (Nat × List Nat)) (listed:List Bool):Prop where
 len:listed.length=after.length
 mem:∀i,i<after.length->(listed.getD i true=false↔∃p∈lin,p.1=i)
 low:∀p∈lin,p.1<after.length
 pair:lin.Pairwise fun p q=>linB l after cl p q=true
 down:∀i,i<after.length->listed.getD i true=true->∀j∈after.getD i [],listed.getD j false=true
def rkF (after:List (List Nat)) (cl:List Nat) (i:Nat):Nat:=match Nat.ble cl.length after.length with
 | true=>if after.getD i []=[]then 0 else i+1
 | false=>cl.getD (after.length+i) 0
theorem ziO {l:List Ai}{after:List (List Nat)}{cl:List Nat}{i:Nat}(hi:i<after.length)(h:linA l after cl i=true) :
  (∀j∈after.getD i [],j<after.length/\rkF after cl j<rkF after cl i)/\(∀p,(cl.getD i 0).testBit p=true->∃j∈after.getD i [],p=j∨(cl.getD j 0).testBit p=true)/\∃x,l[i]? = some x/\zrO x x=true:=by
 simp only[linA,Bool.and_eq_true,beq_iff_eq]at h;refine⟨fun j hj=>?_,fun p hp=>mask_spec ?_,?_⟩
 ·have h0:=h.1.1;unfold rkF;split at h0
  ·rename_i e;simp only[List.all_eq_true,Bool.or_eq_true,Bool.and_eq_true,decide_eq_true_eq,List.isEmpty_iff]at h0;have hne:¬after.getD i []=[]:=fun e=>by rw[e]at hj;cases hj
   simp only[if_neg hne];rcases h0 j hj with h|⟨h,h'⟩
   ·exact⟨by omega,by split<;>omega⟩
   ·exact⟨h',by rw[if_pos h];omega⟩
  ·rename_i e;simp only[List.all_eq_true,Bool.and_eq_true,Nat.blt_eq]at h0;exact h0 j hj
 ·rw[← h.1.2,Nat.testBit_or,hp,Bool.or_true]
 ·have:=h.2;split at this
  ·rename_i x hx;exact⟨x,hx,this⟩
  ·cases this
theorem zrh {l:List Bool}{i n:Nat}(hl:l.length=n)(hi:i<n)(a b:Bool):l.getD i a=l.getD i b:=by
 subst hl;simp[List.getD,List.getElem?_eq_getElem hi]
theorem znt {l:List Ai}{after:List (List Nat)}{cl:List Nat}{lin:List (Nat × List Nat)}{listed:List Bool}(hA:∀i,i<after.length->linA l after cl i=true)(I:zmU l after cl lin listed) :
  ∀(n i:Nat),rkF after cl i<n->i<after.length->(∀j∈after.getD i [],listed.getD j false=true)->∀p,(cl.getD i 0).testBit p=true->listed.getD p false=true
 | 0,i,h,_,_,_,_=>absurd h (Nat.not_lt_zero _)
 | n+1,i,hn,hi,hd,p,hp=>by
  obtain⟨h1,h2,_⟩:=ziO hi (hA i hi);obtain⟨j,hj,hpj⟩:=h2 p hp;rcases hpj with rfl|hpj
  ·exact hd p hj
  ·obtain⟨hjn,hji⟩:=h1 j hj;exact znt hA I n j (by omega) hjn (I.down j hjn (by rw[zrh I.len hjn true false];exact hd j hj)) p hpj
theorem zcx {after:List (List Nat)}{listed:List Bool}{i:Nat}:i∈zib after listed↔i<after.length/\listed.getD i true=false/\∀j∈after.getD i [],listed.getD j false=true:=by
 simp only[zib,List.mem_filter,List.mem_range,Bool.and_eq_true,Bool.not_eq_true',List.all_eq_true]
theorem zoU {l:List Ai}{after:List (List Nat)}{cl:List Nat}(hA:∀i,i<after.length->linA l after cl i=true){K:zW->List AObj->Prop}(hK:FE K) :
  ∀(n:Nat) (lin:List (Nat × List Nat)) (listed:List Bool) (fr:zW) (σ:List AObj),lin.length=n->zmU l after cl lin listed->zdw P l lin fr σ K->aany P l after K n listed fr σ
 | 0,lin,listed,fr,σ,hn,I,h=>by
  have e:lin=[]:=List.length_eq_zero_iff.1 hn;subst e;refine⟨?_,h⟩;rw[List.eq_nil_iff_forall_not_mem];intro i hi;obtain⟨h1,h2,_⟩:=zcx.1 hi;obtain⟨p,hp,_⟩:=(I.mem i h1).1 h2;cases hp
 | n+1,lin,listed,fr,σ,hn,I,h=>by
  refine⟨fun h0=>?_,fun i hi=>?_⟩
  ·exfalso;cases lin with
   | nil=>cases hn
   | cons p r=>
    have hlow:=I.low p List.mem_cons_self
    have hr:p.1∈zib after listed:=by
     refine zcx.2 ⟨hlow,(I.mem _ hlow).2 ⟨p,List.mem_cons_self,rfl⟩,fun j hj=>?_⟩;obtain⟨hjn,hjr⟩:=(ziO hlow (hA _ hlow)).1 j hj;have hjne:j≠p.1:=by
      rintro rfl;omega
     cases hl:listed.getD j false with
     | true=>rfl
     | false=>
      rw[zrh I.len hjn false true]at hl
      obtain⟨q,hq,e⟩:=(I.mem j hjn).1 hl
      rcases List.mem_cons.1 hq with rfl|hq
      ·exact absurd e.symm hjne
      ·have:=(List.pairwise_cons.1 I.pair).1 q hq
       simp only[linB,Bool.and_eq_true,Bool.not_eq_true',List.contains_eq_mem,decide_eq_false_iff_not]at this
       rw[e]at this
       exact absurd hj this.1.2
    rw[h0]at hr
    cases hr
  ·obtain⟨h1,h2,h3⟩:=zcx.1 hi;obtain⟨q,hq,e⟩:=(I.mem i h1).1 h2;obtain⟨pre,post,rfl⟩:=List.append_of_mem hq;obtain⟨i',nd⟩:=q;simp only at e;subst e;obtain⟨_,_,x,hx,_⟩:=ziO h1 (hA i' h1);have hpair:=List.pairwise_append.1 I.pair;have hcross:∀p∈pre,linB l after cl p (i',nd)=true:=fun p hp=>hpair.2.2 p hp (i',nd) List.mem_cons_self;have hpost:∀p∈post,linB l after cl (i',nd) p=true:=fun p hp=>(List.pairwise_cons.1 hpair.2.1).1 p hp;have hB:∀p q,linB l after cl p q=true->p.1≠q.1/\∃y z,l[p.1]? = some y/\l[q.1]? = some z/\zrO y z=true/\((cl.getD q.1 0).testBit p.1=true∨pairOk y z p.2 q.2=true):=by
    intro p q hpq;simp only[linB,Bool.and_eq_true,Bool.not_eq_true',beq_eq_false_iff_ne]at hpq;refine⟨hpq.1.1,?_⟩;have:=hpq.2;split at this
    ·rename_i y z hy hz;simp only[Bool.and_eq_true,Bool.or_eq_true]at this;exact⟨y,z,hy,hz,this.1,this.2⟩
    ·cases this
   have hun:∀p∈pre,listed.getD p.1 false=false:=fun p hp=>by
    have hlow:=I.low p (List.mem_append_left _ hp);rw[zrh I.len hlow false true];exact(I.mem _ hlow).2 ⟨p,List.mem_append_left _ hp,rfl⟩
   have hex:=extract hK hx (post:=post) pre fr σ (fun p hp=>by
     obtain⟨_,y,z,hy,hz,_,hor⟩:=hB _ _ (hcross p hp);rw[hx]at hz;cases hz;refine⟨y,hy,?_⟩;rcases hor with hc|hc
     ·have:=znt hA I _ i' (Nat.lt_succ_self _) h1 h3 p.1 hc;rw[hun p hp]at this;cases this
     ·exact hc)
    (hpair.1.imp fun{p q} hpq y z hy hz=>by
     obtain⟨_,y',z',hy',hz',hs,_⟩:=hB _ _ hpq;rw[hy]at hy';rw[hz]at hz';cases hy';cases hz';exact hs)
    (fun p hp y hy=>by
     obtain⟨_,_,y',hy',hs⟩:=ziO (I.low p (List.mem_append_left _ hp)) (hA p.1 (I.low p (List.mem_append_left _ hp)));rw[hy]at hy';cases hy';exact hs) h
   simp only[hx];refine zel (fun f s hs=>zoU hA hK n (pre++post) (listed.set i' true) f s (by simp at hn ⊢;omega) ?_ hs.2) hex;have hne:∀p∈pre++post,p.1≠i':=fun p hp=>by
    rcases List.mem_append.1 hp with hp|hp
    ·exact(hB _ _ (hcross p hp)).1
    ·exact fun e=>(hB _ _ (hpost p hp)).1 e.symm
   have hset:∀k d,k≠i'→(listed.set i' true).getD k d=listed.getD k d:=fun k d hk=>by simp[List.getD,List.getElem?_set_ne (Ne.symm hk)]
   have hseti:∀d,(listed.set i' true).getD i' d=true:=fun d=>by simp[List.getD,List.getElem?_set,I.len,h1]
   refine⟨by rw[List.length_set];exact I.len,fun k hk=>?_,fun p hp=>I.low p ?_,?_,fun k hk hl j hj=>?_⟩
   ·by_cases hki:k=i'
    ·subst hki;rw[hseti];exact⟨fun e=>Bool.noConfusion e,fun⟨p,hp,e⟩=>absurd e (hne p hp)⟩
    ·rw[hset k true hki,I.mem k hk];constructor
     ·rintro⟨p,hp,rfl⟩;refine⟨p,?_,rfl⟩;rcases List.mem_append.1 hp with hp|hp
      ·exact List.mem_append_left _ hp
      ·rcases List.mem_cons.1 hp with rfl|hp
       ·exact absurd rfl hki
       ·exact List.mem_append_right _ hp
     ·rintro⟨p,hp,rfl⟩;refine⟨p,?_,rfl⟩;rcases List.mem_append.1 hp with hp|hp
      ·exact List.mem_append_left _ hp
      ·exact List.mem_append_right _ (List.mem_cons_of_mem _ hp)
   ·rcases List.mem_append.1 hp with hp|hp
    ·exact List.mem_append_left _ hp
    ·exact List.mem_append_right _ (List.mem_cons_of_mem _ hp)
   ·exact I.pair.sublist (List.Sublist.append_left (List.sublist_cons_self _ _) _)
   ·have hj':listed.getD j false=true:=by
     by_cases hki:k=i'
     ·subst hki;exact h3 j hj
     ·rw[hset k true hki]at hl;exact I.down k hk hl j hj
    by_cases hji:j=i'
    ·subst hji;exact hseti _
    ·rw[hset j false hji];exact hj'
theorem zwe {l:List Ai}{after:List (List Nat)}{lin:List (Nat × List Nat)}{cl:List Nat}(h:linOk l after lin cl=true) :
  lin.length=after.length/\zmU l after cl lin (List.replicate after.length false)/\∀i,i<after.length->linA l after cl i=true:=by
 simp only[linOk,Bool.and_eq_true,List.all_eq_true,decide_eq_true_eq,beq_iff_eq,List.mem_range,List.contains_eq_mem,List.mem_map]at h;obtain⟨⟨⟨h1,h2⟩,h3⟩,h4⟩:=h;refine⟨h1,⟨by simp,fun i hi=>?_,h3,pw_spec h4,fun i hi e=>?_⟩,fun i hi=>(h2 i hi).2⟩
 ·constructor
  ·intro _;exact(h2 i hi).1
  ·intro _;simp[List.getD,hi]
 ·simp[List.getD,hi]at e
theorem zyW {l:List Ai}{after:List (List Nat)}{cl:List Nat}{pre post post':List (Nat × List Nat)}{i':Nat}{nd:List Nat}{listed:List Bool}(hA:∀i,i<after.length->linA l after cl i=true)
  (I:zmU l after cl (pre++(i',nd)::post') listed) (h1:i'<after.length) (h2:listed.getD i' true=false) (h3:∀j∈after.getD i' [],listed.getD j false=true) {x:Ai} (hx:l[i']? = some x)
  {K:zW->List AObj->Prop} (hK:FE K) {fr:zW} {σ:List AObj} (h:zdw P l (pre++(i',nd)::post) fr σ K) :
  aop P x fr σ fun f s=>zdw P l (pre++post) f s K:=by
 have hpair:=List.pairwise_append.1 I.pair;have hcross:∀p∈pre,linB l after cl p (i',nd)=true:=fun p hp=>hpair.2.2 p hp (i',nd) List.mem_cons_self;have hB:∀p q,linB l after cl p q=true->p.1≠q.1/\∃y z,l[p.1]? = some y/\l[q.1]? = some z/\zrO y z=true/\((cl.getD q.1 0).testBit p.1=true∨pairOk y z p.2 q.2=true):=by
  intro p q hpq;simp only[linB,Bool.and_eq_true,Bool.not_eq_true',beq_eq_false_iff_ne]at hpq;refine⟨hpq.1.1,?_⟩;have:=hpq.2;split at this
  ·rename_i y z hy hz;simp only[Bool.and_eq_true,Bool.or_eq_true]at this;exact⟨y,z,hy,hz,this.1,this.2⟩
  ·cases this
 have hun:∀p∈pre,listed.getD p.1 false=false:=fun p hp=>by
  have hlow:=I.low p (List.mem_append_left _ hp);rw[zrh I.len hlow false true];exact(I.mem _ hlow).2 ⟨p,List.mem_append_left _ hp,rfl⟩
 have hex:=extract hK hx (post:=post) pre fr σ (fun p hp=>by
   obtain⟨_,y,z,hy,hz,_,hor⟩:=hB _ _ (hcross p hp);rw[hx]at hz;cases hz;refine⟨y,hy,?_⟩;rcases hor with hc|hc
   ·have:=znt hA I _ i' (Nat.lt_succ_self _) h1 h3 p.1 hc;rw[hun p hp]at this;cases this
   ·exact hc)
  (hpair.1.imp fun{p q} hpq y z hy hz=>by
   obtain⟨_,y',z',hy',hz',hs,_⟩:=hB _ _ hpq;rw[hy]at hy';rw[hz]at hz';cases hy';cases hz';exact hs)
  (fun p hp y hy=>by
   obtain⟨_,_,y',hy',hs⟩:=ziO (I.low p (List.mem_append_left _ hp)) (hA p.1 (I.low p (List.mem_append_left _ hp)));rw[hy]at hy';cases hy';exact hs) h
 exact zel (fun f s hs=>hs.2) hex
theorem adraw_mono' {l:List Ai}{K K':zW->List AObj->Prop}(hk:∀f s,K f s->K' f s):∀(lin:List (Nat × List Nat)) (fr:zW) (σ:List AObj),zdw P l lin fr σ K->zdw P l lin fr σ K'
 | [],fr,σ,h=>hk _ _ h
 | (i,nd)::r,fr,σ,h=>by
  unfold zdw at *;split at h
  ·refine zel (fun f s hs=>?_) h;rw[zkz]at hs ⊢;exact⟨hs.1,adraw_mono' hk r _ s hs.2⟩
  ·exact h
theorem linOk_any {l:List Ai}{after:List (List Nat)}{lin:List (Nat × List Nat)}{cl:List Nat}(h:linOk l after lin cl=true){K:zW->List AObj->Prop}(hK:FE K){fr:zW}{σ:List AObj}(hd:zdw P l lin fr σ K) :
  aany P l after K after.length (List.replicate after.length false) fr σ:=by
 simp only[linOk,Bool.and_eq_true,List.all_eq_true,decide_eq_true_eq,beq_iff_eq,List.mem_range,List.contains_eq_mem,List.mem_map]at h;obtain⟨⟨⟨h1,h2⟩,h3⟩,h4⟩:=h;refine zoU (fun i hi=>(h2 i hi).2) hK _ lin _ fr σ h1 ⟨by simp,fun i hi=>?_,h3,pw_spec h4,fun i hi e=>?_⟩ hd
 ·constructor
  ·intro _;exact(h2 i hi).1
  ·intro _;simp[List.getD,hi]
 ·simp[List.getD,hi]at e
theorem zmU.step {l:List Ai}{after:List (List Nat)}{cl:List Nat}{pre post:List (Nat × List Nat)}{i':Nat}{nd:List Nat}{listed:List Bool}(I:zmU l after cl (pre++(i',nd)::post) listed)(h1:i'<after.length)
  (h3:∀j∈after.getD i' [],listed.getD j false=true):zmU l after cl (pre++post) (listed.set i' true):=by
 have hpair:=List.pairwise_append.1 I.pair;have hcross:∀p∈pre,linB l after cl p (i',nd)=true:=fun p hp=>hpair.2.2 p hp (i',nd) List.mem_cons_self;have hpost:∀p∈post,linB l after cl (i',nd) p=true:=fun p hp=>(List.pairwise_cons.1 hpair.2.1).1 p hp;have hB:∀p q,linB l after cl p q=true->p.1≠q.1:=by
  intro p q hpq;simp only[linB,Bool.and_eq_true,Bool.not_eq_true',beq_eq_false_iff_ne]at hpq;exact hpq.1.1
 have hne:∀p∈pre++post,p.1≠i':=fun p hp=>by
  rcases List.mem_append.1 hp with hp|hp
  ·exact hB _ _ (hcross p hp)
  ·exact fun e=>hB _ _ (hpost p hp) e.symm
 have hset:∀k d,k≠i'→(listed.set i' true).getD k d=listed.getD k d:=fun k d hk=>by simp[List.getD,List.getElem?_set_ne (Ne.symm hk)]
 have hseti:∀d,(listed.set i' true).getD i' d=true:=fun d=>by simp[List.getD,List.getElem?_set,I.len,h1]
 refine⟨by rw[List.length_set];exact I.len,fun k hk=>?_,fun p hp=>I.low p ?_,?_,fun k hk hl j hj=>?_⟩
 ·by_cases hki:k=i'
  ·subst hki;rw[hseti];exact⟨fun e=>Bool.noConfusion e,fun⟨p,hp,e⟩=>absurd e (hne p hp)⟩
  ·rw[hset k true hki,I.mem k hk];constructor
   ·rintro⟨p,hp,rfl⟩;refine⟨p,?_,rfl⟩;rcases List.mem_append.1 hp with hp|hp
    ·exact List.mem_append_left _ hp
    ·rcases List.mem_cons.1 hp with rfl|hp
     ·exact absurd rfl hki
     ·exact List.mem_append_right _ hp
   ·rintro⟨p,hp,rfl⟩;refine⟨p,?_,rfl⟩;rcases List.mem_append.1 hp with hp|hp
    ·exact List.mem_append_left _ hp
    ·exact List.mem_append_right _ (List.mem_cons_of_mem _ hp)
 ·rcases List.mem_append.1 hp with hp|hp
  ·exact List.mem_append_left _ hp
  ·exact List.mem_append_right _ (List.mem_cons_of_mem _ hp)
 ·exact I.pair.sublist (List.Sublist.append_left (List.sublist_cons_self _ _) _)
 ·have hj':listed.getD j false=true:=by
   by_cases hki:k=i'
   ·subst hki;exact h3 j hj
   ·rw[hset k true hki]at hl;exact I.down k hk hl j hj
  by_cases hji:j=i'
  ·subst hji;exact hseti _
  ·rw[hset j false hji];exact hj'
def dep (after:List (List Nat)) (i j:Nat):List (List Nat):=after.set i (j::after.getD i [])
theorem zrv (after:List (List Nat))(i j:Nat):(dep after i j).length=after.length:=by simp[dep]
theorem dep_ne (after:List (List Nat)){i j k:Nat}(h:k≠i):(dep after i j).getD k []=after.getD k []:=by
 simp[dep,List.getD,List.getElem?_set_ne (Ne.symm h)]
theorem dep_same (after:List (List Nat)){i j:Nat}(h:i<after.length):(dep after i j).getD i []=j::after.getD i []:=by
 simp[dep,List.getD,List.getElem?_set,h]
theorem ziT {after:List (List Nat)}{i j:Nat}{listed:List Bool}{k:Nat}(h:k∈zib after listed)(hk:k=i->listed.getD j false=true):k∈zib (dep after i j) listed:=by
 obtain⟨h1,h2,h3⟩:=zcx.1 h;refine zcx.2 ⟨by rw[zrv];exact h1,h2,fun x hx=>?_⟩;by_cases e:k=i
 ·subst e;rw[dep_same _ h1]at hx;rcases List.mem_cons.1 hx with rfl|hx
  ·exact hk rfl
  ·exact h3 x hx
 ·rw[dep_ne _ e]at hx;exact h3 x hx
theorem ready_dep {after:List (List Nat)}{i j:Nat}{listed:List Bool}{k:Nat}(h:k∈zib (dep after i j) listed):k∈zib after listed:=by
 obtain⟨h1,h2,h3⟩:=zcx.1 h;rw[zrv]at h1;refine zcx.2 ⟨h1,h2,fun x hx=>h3 x ?_⟩;by_cases e:k=i
 ·subst e;rw[dep_same _ h1];exact List.mem_cons_of_mem _ hx
 ·rw[dep_ne _ e];exact hx
theorem nil_dep {after:List (List Nat)}{i j:Nat}{listed:List Bool}(h:zib after listed=[]):zib (dep after i j) listed=[]:=by
 rw[List.eq_nil_iff_forall_not_mem]at h ⊢;exact fun k hk=>h k (ready_dep hk)
theorem zpT {l:List Ai}{after:List (List Nat)}{i j:Nat}{K:zW->List AObj->Prop}:∀(n:Nat) (listed:List Bool) (fr:zW) (σ:List AObj),listed.getD j false=true->aany P l (dep after i j) K n listed fr σ->aany P l after K n listed fr σ
 | 0,listed,fr,σ,hj,h=>by
  refine⟨?_,h.2⟩;have h1:=h.1;rw[List.eq_nil_iff_forall_not_mem]at h1 ⊢;exact fun k hk=>h1 k (ziT hk fun _=>hj)
 | n+1,listed,fr,σ,hj,h=>by
  refine⟨fun h0=>h.1 (nil_dep h0),fun k hk=>?_⟩;have h2:=h.2 k (ziT hk fun _=>hj);split at h2
  ·refine zel (fun f s hs=>zpT n _ f s ?_ hs) h2;by_cases e:k=j
   ·subst e;rcases Nat.lt_or_ge k listed.length with hl|hl
    ·simp[List.getD,List.getElem?_set,hl]
    ·simp[List.getD,List.getElem?_eq_none hl]at hj
   ·simp only[List.getD,List.getElem?_set_ne e];exact hj
  ·exact h2.elim
theorem ziZ {l:List Ai}{K:zW->List AObj->Prop}:∀(a b:List (Nat × List Nat)) (fr:zW) (σ:List AObj),zdw P l a fr σ (fun f s=>zdw P l b f s K)->zdw P l (a++b) fr σ K
 | [],b,fr,σ,h=>h
 | (i,nd)::r,b,fr,σ,h=>by
  rw[List.cons_append];unfold zdw at *;split at h
  ·refine zel (fun f s hs=>?_) h;rw[zkz]at hs ⊢;exact⟨hs.1,ziZ r b f s hs.2⟩
  ·exact h.elim
structure Two (l:List Ai) (after:List (List Nat)) (p q:Nat):Prop where
 hp:p<after.length
 hq:q<after.length
 ne:p≠q
theorem two_any {l:List Ai}{after:List (List Nat)}{p q:Nat}{clA clB:List Nat}{restA restB:List (Nat × List Nat)}(hne:p≠q)
  (hA:∀i,i<(dep after q p).length->linA l (dep after q p) clA i=true) (hB:∀i,i<(dep after p q).length->linA l (dep after p q) clB i=true)
  {K:zW->List AObj->Prop} (hK:FE K) :
  ∀(n:Nat) (pre:List (Nat × List Nat)) (listed:List Bool) (fr:zW) (σ:List AObj),
   (∀x,x<after.length->listed.getD x true=false->x=p∨x=q∨(∃y∈pre,y.1=x)∨(clA.getD x 0).testBit p=true) →
   listed.getD p false=false->listed.getD q false=false->p<after.length->q<after.length →
   (pre++restA).length=n->(pre++restB).length=n->zmU l (dep after q p) clA (pre++restA) listed->zmU l (dep after p q) clB (pre++restB) listed →
   zdw P l pre fr σ (fun f s=>zdw P l restA f s K/\zdw P l restB f s K)->aany P l after K n listed fr σ:=by
 intro n;induction n with
 | zero=>
  intro pre listed fr σ hx hp hq hpl hql e1 e2 IA IB h
  have e:pre++restA=[]:=List.length_eq_zero_iff.1 e1
  have:∃y∈pre++restA,y.1=p:=(IA.mem p (by rw[zrv];exact hpl)).1 (by rw[zrh (by rw[IA.len,zrv]) hpl true false];exact hp)
  rw[e]at this
  obtain⟨y,hy,_⟩:=this
  cases hy
 | succ n ih=>
  intro pre listed fr σ hx hp hq hpl hql e1 e2 IA IB h
  have AA:=zoU hA hK (n+1) _ listed fr σ e1 IA (ziZ _ _ _ _ (adraw_mono' (fun f s hs=>hs.1) pre fr σ h))
  have AB:=zoU hB hK (n+1) _ listed fr σ e2 IB (ziZ _ _ _ _ (adraw_mono' (fun f s hs=>hs.2) pre fr σ h))
  refine⟨fun h0=>AA.1 (nil_dep h0),fun i hi=>?_⟩
  obtain⟨h1,h2,h3⟩:=zcx.1 hi
  have hset:∀d,(listed.set i true).getD i d=true:=fun d=>by
   have:=IA.len;rw[zrv]at this;simp[List.getD,List.getElem?_set,this,h1]
  by_cases eip:i=p
  ·subst eip
   have h4:=AA.2 i (ziT hi fun e=>absurd e hne)
   split at h4
   ·exact zel (fun f s hs=>zpT n _ f s (hset _) hs) h4
   ·exact h4.elim
  by_cases eiq:i=q
  ·subst eiq
   have h4:=AB.2 i (ziT hi fun e=>absurd e (Ne.symm hne))
   split at h4
   ·exact zel (fun f s hs=>zpT n _ f s (hset _) hs) h4
   ·exact h4.elim
  have hin:∃y∈pre,y.1=i:=by
   rcases hx i h1 h2 with h|h|h|h
   ·exact absurd h eip
   ·exact absurd h eiq
   ·exact h
   ·obtain⟨a1,a2,a3⟩:=zcx.1 (ziT (i:=q) (j:=p) hi fun e=>absurd e eiq);have:=znt hA IA _ i (Nat.lt_succ_self _) a1 a3 p h;rw[this]at hp;cases hp
  obtain⟨y,hy,e⟩:=hin
  obtain⟨pre1,post1,rfl⟩:=List.append_of_mem hy
  obtain⟨i',nd⟩:=y
  simp only at e
  subst e
  have hiA:=ziT (i:=q) (j:=p) hi fun e=>absurd e eiq
  have hiB:=ziT (i:=p) (j:=q) hi fun e=>absurd e eip
  obtain⟨a1,a2,a3⟩:=zcx.1 hiA
  obtain⟨b1,b2,b3⟩:=zcx.1 hiB
  obtain⟨_,_,x,hxl,_⟩:=ziO a1 (hA i' a1)
  have IA':zmU l (dep after q p) clA (pre1++(i',nd)::(post1++restA)) listed:=by simpa [List.append_assoc] using IA
  have IB':zmU l (dep after p q) clB (pre1++(i',nd)::(post1++restB)) listed:=by simpa [List.append_assoc] using IB
  have hex:=zyW hA IA' a1 a2 a3 hxl (K:=fun f s=>zdw P l restA f s K/\zdw P l restB f s K) (fun f f' s he hs=>⟨zpS hK _ _ _ _ he hs.1,zpS hK _ _ _ _ he hs.2⟩) (post:=post1) h
  simp only[hxl]
  refine zel (fun f s hs=>ih (pre1++post1) (listed.set i' true) f s (fun k hk hkl=>?_) ?_ ?_ hpl hql ?_ ?_ ?_ ?_ hs) hex
  ·by_cases ek:k=i'
   ·subst ek;rw[hset]at hkl;cases hkl
   ·have hkl':listed.getD k true=false:=by simpa [List.getD,List.getElem?_set_ne (Ne.symm ek)] using hkl
    rcases hx k hk hkl' with h|h|⟨y,hy,e⟩|h
    ·exact .inl h
    ·exact .inr (.inl h)
    ·refine .inr (.inr (.inl ⟨y,?_,e⟩))
     rcases List.mem_append.1 hy with hy|hy
     ·exact List.mem_append_left _ hy
     ·rcases List.mem_cons.1 hy with rfl|hy
      ·exact absurd e.symm ek
      ·exact List.mem_append_right _ hy
    ·exact .inr (.inr (.inr h))
  ·simpa [List.getD,List.getElem?_set_ne eip] using hp
  ·simpa [List.getD,List.getElem?_set_ne eiq] using hq
  ·simp only[List.length_append,List.length_cons]at e1 ⊢;omega
  ·simp only[List.length_append,List.length_cons]at e2 ⊢;omega
  ·have:=IA'.step a1 a3
   simpa [List.append_assoc] using this
  ·have:=IB'.step b1 b3
   simpa [List.append_assoc] using this
def twoOk (l:List Ai) (after:List (List Nat)) (lin:List (Nat × List Nat)):List Nat->Bool
 | p::q::k::r=>
  decide (p<after.length)&&decide (q<after.length)&&!(p==q)&&decide (k<=after.length)&&linOk l (dep after q p) (lin.take after.length) (r.take after.length) &&
  linOk l (dep after p q) (lin.take k++lin.drop after.length) (r.drop after.length) &&
  (List.range after.length).all fun x=>x==p || x==q || ((lin.take k).map (·.1)).contains x || ((r.take after.length).getD x 0).testBit p
 | _=>false
def twoK:List Nat->Nat
 | _::_::k::_=>k
 | _=>0
theorem twoOk_any {l:List Ai}{after:List (List Nat)}{lin:List (Nat × List Nat)}{cl:List Nat}(h:twoOk l after lin cl=true){K:zW->List AObj->Prop}(hK:FE K){fr:zW}{σ:List AObj}
  (hd:zdw P l (lin.take (twoK cl)) fr σ fun f s=>zdw P l ((lin.take after.length).drop (twoK cl)) f s K/\zdw P l (lin.drop after.length) f s K) :
  aany P l after K after.length (List.replicate after.length false) fr σ:=by
 unfold twoOk at h;split at h
 ·rename_i p q k r;simp only[twoK]at hd;simp only[Bool.and_eq_true,decide_eq_true_eq,Bool.not_eq_true',beq_eq_false_iff_ne]at h;obtain⟨⟨⟨⟨⟨⟨hp,hq⟩,hne⟩,hk⟩,hA⟩,hB⟩,hx⟩:=h;obtain⟨lA,IA,AA⟩:=zwe hA;obtain⟨lB,IB,AB⟩:=zwe hB;rw[zrv]at lA lB IA IB;have esplit:lin.take k++(lin.take after.length).drop k=lin.take after.length:=by
   have e1:lin.take k=(lin.take after.length).take k:=by rw[List.take_take,Nat.min_eq_left hk]
   rw[e1];exact List.take_append_drop ..
  refine two_any hne AA AB hK after.length (lin.take k) _ fr σ (fun x hxl _=>?_) ?_ ?_ hp hq ?_ ?_ ?_ ?_ hd
  ·have:=List.all_eq_true.1 hx x (List.mem_range.2 hxl);simp only[Bool.or_eq_true,beq_iff_eq,List.contains_eq_mem,decide_eq_true_eq,List.mem_map]at this;rcases this with((h|h)|h)|h
   ·exact .inl h
   ·exact .inr (.inl h)
   ·exact .inr (.inr (.inl h))
   ·exact .inr (.inr (.inr h))
  ·simp[List.getD,hp]
  ·simp[List.getD,hq]
  ·rw[esplit];exact lA
  ·exact lB
  ·rw[esplit];exact IA
  ·exact IB
 ·cases h
inductive Tr where
 | leaf (lin:List (Nat × List Nat)) (cl:List Nat)
 | node (pre:List (Nat × List Nat)) (heads bits:List Nat) (kids:Tr)
 | kid (h:Nat) (c rest:Tr)
 | done
def trOf (n:Nat):Nat->List (Nat × List Nat)->List Nat->Tr
 | 0,_,_=>.done
 | f+1,lin,cl=>match cl with
  | 0::bits=>.leaf lin bits
  | 1::k::rn::r=>.node (lin.take k) (r.take rn) ((r.drop rn).take (n+n)) (trOf n f (lin.drop k) ((r.drop rn).drop (n+n)))
  | 2::h::s::m::r=>.kid h (trOf n f (lin.take m) (r.take s)) (trOf n f (lin.drop m) (r.drop s))
  | _=>.done
def ztJ (after:List (List Nat)) (h:Nat):List Nat->List (List Nat)
 | []=>after
 | x::r=>match Nat.beq x h with
  | true=>ztJ after h r
  | false=>ztJ (dep after x h) h r
def zmY (P:Program) (l:List Ai) (K:zW->List AObj->Prop):Tr->zW->List AObj->Prop
 | .leaf lin _,fr,σ=>zdw P l lin fr σ K
 | .node pre _ _ kids,fr,σ=>zdw P l pre fr σ (zmY P l K kids)
 | .kid _ c .done,fr,σ=>zmY P l K c fr σ
 | .kid _ c r,fr,σ=>zmY P l K c fr σ/\zmY P l K r fr σ
 | .done,_,_=>True
def kidHs:Tr->List Nat
 | .kid h _ r=>h::kidHs r
 | _=>[]
def zuF (l:List Ai):Tr->Option (List Nat)->List (List Nat)->List (Nat × List Nat)->Bool
 | .leaf lin cl,none,after,pre=>linOk l after (pre++lin) cl
 | .node pr heads bits kids,none,after,pre=>
  heads.all (fun h=>Nat.blt h after.length)&&(kidHs kids==heads)&&!(heads.isEmpty)&&((List.range after.length).all fun i=>linA l after bits i)&&((pre++pr).all fun y=>!(heads.contains y.1)) &&
  ((List.range after.length).all fun x=>heads.contains x || ((pre++pr).map (·.1)).contains x || heads.any fun h=>(bits.getD x 0).testBit h)&&zuF l kids (some heads) after (pre++pr)
 | .kid h c r,some H,after,pre=>zuF l c none (ztJ after h H) pre&&zuF l r (some H) after pre
 | .done,some _,_,_=>true
 | _,_,_,_=>false
def TInv (l:List Ai):Tr->Option (List Nat)->List (List Nat)->List (Nat × List Nat)->Nat->List Bool->Prop
 | .leaf lin cl,none,after,pre,n,listed=>(pre++lin).length=n/\zmU l after cl (pre++lin) listed/\∀i,i<after.length->linA l after cl i=true
 | .node pr heads bits kids,none,after,pre,n,listed=>
  ((∀h∈heads,h<after.length)/\kidHs kids=heads/\heads≠[]/\∀i,i<after.length->linA l after bits i=true) ∧
  (listed.length=after.length/\(∀i,i<after.length->listed.getD i true=true->∀j∈after.getD i [],listed.getD j false=true)/\∀h∈heads,listed.getD h false=false) ∧
  (∀y∈pre++pr,y.1∉heads) ∧
  (∀x,x<after.length->listed.getD x true=false->x∈heads∨(∃y∈pre++pr,y.1=x)∨∃h∈heads,(bits.getD x 0).testBit h=true)/\TInv l kids (some heads) after (pre++pr) n listed
 | .kid h c r,some H,after,pre,n,listed=>TInv l c none (ztJ after h H) pre n listed/\TInv l r (some H) after pre n listed
 | .done,some _,_,_,_,_=>True
 | _,_,_,_,_,_=>False
theorem zvt (h:Nat):∀(H:List Nat) (after:List (List Nat)),(ztJ after h H).length=after.length
 | [],_=>rfl
 | x::r,after=>by
  unfold ztJ;split
  ·exact zvt h r after
  ·rw[zvt h r,zrv]
theorem zmE {h:Nat}{listed:List Bool}{k:Nat}:∀(H:List Nat) (after:List (List Nat)),k∈zib after listed->(k∈H->k=h∨listed.getD h false=true)->k∈zib (ztJ after h H) listed
 | [],_,hk,_=>hk
 | x::r,after,hk,hh=>by
  unfold ztJ;split
  ·exact zmE r after hk fun hm=>hh (List.mem_cons_of_mem _ hm)
  ·rename_i e;refine zmE r _ (ziT hk fun e2=>?_) fun hm=>hh (List.mem_cons_of_mem _ hm);rcases hh (by rw[e2];exact List.mem_cons_self)with h1|h1
   ·have hb:Nat.beq x h=true:=by rw[← e2,h1];exact Nat.beq_refl h
    rw[e]at hb;cases hb
   ·exact h1
theorem zqU {h:Nat}{listed:List Bool}{k:Nat}:∀(H:List Nat) (after:List (List Nat)),k∈zib (ztJ after h H) listed->k∈zib after listed
 | [],_,hk=>hk
 | x::r,after,hk=>by
  unfold ztJ at hk;split at hk
  ·exact zqU r after hk
  ·exact ready_dep (zqU r _ hk)
theorem zrE {l:List Ai}{h:Nat}{K:zW->List AObj->Prop}{n:Nat}{listed:List Bool}{fr:zW}{σ:List AObj}(hh:listed.getD h false=true):∀(H:List Nat) (after:List (List Nat)),aany P l (ztJ after h H) K n listed fr σ->aany P l after K n listed fr σ
 | [],_,ha=>ha
 | x::r,after,ha=>by
  unfold ztJ at ha;split at ha
  ·exact zrE hh r after ha
  ·exact zpT n listed fr σ hh (zrE hh r _ ha)
theorem zwK {l:List Ai}{after:List (List Nat)}{cl:List Nat}{listed:List Bool}(hA:∀i,i<after.length->linA l after cl i=true)(hlen:listed.length=after.length)
  (hdown:∀i,i<after.length->listed.getD i true=true->∀j∈after.getD i [],listed.getD j false=true) :
  ∀(n i:Nat),rkF after cl i<n->i<after.length->(∀j∈after.getD i [],listed.getD j false=true)->∀p,(cl.getD i 0).testBit p=true->listed.getD p false=true
 | 0,i,h,_,_,_,_=>absurd h (Nat.not_lt_zero _)
 | n+1,i,hn,hi,hd,p,hp=>by
  obtain⟨h1,h2,_⟩:=ziO hi (hA i hi);obtain⟨j,hj,hpj⟩:=h2 p hp;rcases hpj with rfl|hpj
  ·exact hd p hj
  ·obtain⟨hjn,hji⟩:=h1 j hj;exact zwK hA hlen hdown n j (by omega) hjn (hdown j hjn (by rw[zrh hlen hjn true false];exact hd j hj)) p hpj
theorem zsW {l:List Ai}{K:zW->List AObj->Prop}(hK:FE K){n:Nat}{listed:List Bool}{x:Ai}{fr:zW}{σ:List AObj}{pre1:List (Nat × List Nat)}{i:Nat}{nd:List Nat}(hx:l[i]? = some x)(post0:List (Nat × List Nat))(h:zdw P l (pre1++(i,nd)::post0) fr σ K) :
  ∀(T:Tr) (o:Option (List Nat)) (after:List (List Nat)) (post1:List (Nat × List Nat)),TInv l T o after (pre1++(i,nd)::post1) n listed->(∀H,o=some H->i∉H/\kidHs T≠[])->i<after.length->listed.getD i true=false->(∀j∈after.getD i [],listed.getD j false=true) →
  aop P x fr σ fun f s=>zdw P l (pre1++post0) f s K
 | .leaf lin cl,none,after,post1,hT,_,h1,h2,h3=>by
  obtain⟨_,I,hA⟩:=hT;exact zyW hA (by simpa [List.append_assoc] using I) h1 h2 h3 hx hK h
 | .node pr heads bits kids,none,after,post1,hT,_,h1,h2,h3=>by
  obtain⟨⟨_,e1,e2,_⟩,_,hpre,_,TK⟩:=hT;rw[List.append_assoc,List.cons_append]at TK;exact zsW hK hx post0 h kids (some heads) after _ TK (fun H e=>by cases e;exact⟨hpre (i,nd) (by simp),by rw[e1];exact e2⟩) h1 h2 h3
 | .kid h' c r,some H,after,post1,hT,ho,h1,h2,h3=>by
  obtain⟨a1,a2,a3⟩:=zcx.1 (zmE (h:=h') H after (zcx.2 ⟨h1,h2,h3⟩) fun hm=>absurd hm (ho H rfl).1);exact zsW hK hx post0 h c none _ _ hT.1 (fun H e=>by cases e) a1 a2 a3
 | .done,some H,after,post1,hT,ho,h1,h2,h3=>absurd rfl (ho H rfl).2
 | .leaf ..,some _,_,_,hT,_,_,_,_=>hT.elim
 | .node ..,some _,_,_,hT,_,_,_,_=>hT.elim
 | .kid ..,none,_,_,hT,_,_,_,_=>hT.elim
 | .done,none,_,_,hT,_,_,_,_=>hT.elim
theorem zrK {l:List Ai}{n:Nat}{listed:List Bool}{pre1:List (Nat × List Nat)}{i:Nat}{nd:List Nat} :
  ∀(T:Tr) (o:Option (List Nat)) (after:List (List Nat)) (post1:List (Nat × List Nat)),TInv l T o after (pre1++(i,nd)::post1) (n+1) listed->(∀H,o=some H->i∉H)->i<after.length->listed.getD i true=false->(∀j∈after.getD i [],listed.getD j false=true) →
  TInv l T o after (pre1++post1) n (listed.set i true)
 | .leaf lin cl,none,after,post1,hT,_,h1,h2,h3=>by
  obtain⟨e,I,hA⟩:=hT;have I':zmU l after cl (pre1++(i,nd)::(post1++lin)) listed:=by simpa [List.append_assoc] using I
  refine⟨by simp only[List.length_append,List.length_cons]at e ⊢;omega,?_,hA⟩;have:=I'.step h1 h3;simpa [List.append_assoc] using this
 | .node pr heads bits kids,none,after,post1,hT,_,h1,h2,h3=>by
  obtain⟨hs,⟨hlen,hdown,hup⟩,hpre,hcov,TK⟩:=hT;have hi:i∉heads:=hpre (i,nd) (by simp);have hset:∀j d,j≠i->(listed.set i true).getD j d=listed.getD j d:=fun j d hj=>by simp[List.getD,List.getElem?_set_ne (Ne.symm hj)]
  have hseti:∀d,(listed.set i true).getD i d=true:=fun d=>by simp[List.getD,List.getElem?_set,hlen,h1]
  rw[List.append_assoc,List.cons_append]at TK;have SK:=zrK kids (some heads) after _ TK (fun H e=>by cases e;exact hi) h1 h2 h3;rw[← List.append_assoc]at SK;refine⟨hs,⟨by rw[List.length_set];exact hlen,fun x hx hl j hj=>?_,fun h hh=>by rw[hset h _ (fun e=>hi (e▸hh))];exact hup h hh⟩,fun y hy=>hpre y ?_,fun x hx hl=>?_,SK⟩
  ·have hj':listed.getD j false=true:=by
    by_cases hxi:x=i
    ·subst hxi;exact h3 j hj
    ·rw[hset x true hxi]at hl;exact hdown x hx hl j hj
   by_cases hji:j=i
   ·subst hji;exact hseti _
   ·rw[hset j false hji];exact hj'
  ·rcases List.mem_append.1 hy with hy|hy
   ·rcases List.mem_append.1 hy with hy|hy
    ·exact List.mem_append_left _ (List.mem_append_left _ hy)
    ·exact List.mem_append_left _ (List.mem_append_right _ (List.mem_cons_of_mem _ hy))
   ·exact List.mem_append_right _ hy
  ·by_cases hxi:x=i
   ·subst hxi;rw[hseti]at hl;cases hl
   ·rw[hset x true hxi]at hl;rcases hcov x hx hl with h|⟨y,hy,e⟩|h
    ·exact .inl h
    ·refine .inr (.inl ⟨y,?_,e⟩);rcases List.mem_append.1 hy with hy|hy
     ·rcases List.mem_append.1 hy with hy|hy
      ·exact List.mem_append_left _ (List.mem_append_left _ hy)
      ·rcases List.mem_cons.1 hy with rfl|hy
       ·exact absurd e.symm hxi
       ·exact List.mem_append_left _ (List.mem_append_right _ hy)
     ·exact List.mem_append_right _ hy
    ·exact .inr (.inr h)
 | .kid h' c r,some H,after,post1,hT,ho,h1,h2,h3=>by
  obtain⟨a1,a2,a3⟩:=zcx.1 (zmE (h:=h') H after (zcx.2 ⟨h1,h2,h3⟩) fun hm=>absurd hm (ho H rfl));exact⟨zrK c none _ _ hT.1 (fun H e=>by cases e) a1 a2 a3,zrK r (some H) _ _ hT.2 ho h1 h2 h3⟩
 | .done,some _,_,_,_,_,_,_,_=>trivial
 | .leaf ..,some _,_,_,hT,_,_,_,_=>hT.elim
 | .node ..,some _,_,_,hT,_,_,_,_=>hT.elim
 | .kid ..,none,_,_,hT,_,_,_,_=>hT.elim
 | .done,none,_,_,hT,_,_,_,_=>hT.elim
theorem zmk {l:List Ai}{K:zW->List AObj->Prop}{h:Nat}{c r:Tr}{fr:zW}{σ:List AObj}(hw:zmY P l K (.kid h c r) fr σ):zmY P l K c fr σ/\zmY P l K r fr σ:=by
 cases r with
 | done=>exact⟨hw,trivial⟩
 | _=>exact hw
theorem treeW_kid' {l:List Ai}{K:zW->List AObj->Prop}{h:Nat}{c r:Tr}{fr:zW}{σ:List AObj}(hw:zmY P l K c fr σ/\zmY P l K r fr σ):zmY P l K (.kid h c r) fr σ:=by
 cases r with
 | done=>exact hw.1
 | _=>exact hw
theorem zvo {l:List Ai}{K:zW->List AObj->Prop}(hK:FE K):∀(T:Tr),FE (zmY P l K T)
 | .leaf _ _=>fun _ _ _ he h=>zpS hK _ _ _ _ he h
 | .node _ _ _ kids=>fun _ _ _ he h=>zpS (zvo hK kids) _ _ _ _ he h
 | .kid _ c r=>fun a b s he h=>treeW_kid' ⟨zvo hK c a b s he (zmk h).1,zvo hK r a b s he (zmk h).2⟩
 | .done=>fun _ _ _ _ _=>trivial
theorem zvI {l:List Ai}:∀(T:Tr) (o:Option (List Nat)) (after:List (List Nat)) (pre:List (Nat × List Nat)) (listed:List Bool),TInv l T o after pre 0 listed->(o≠none->kidHs T≠[])->(∀x,x<after.length->listed.getD x true=true)
 | .leaf lin cl,none,after,pre,listed,hT,_=>by
  obtain⟨e,I,_⟩:=hT;intro x hx;cases hb:listed.getD x true with
  | true=>rfl
  | false=>
   obtain⟨y,hy,_⟩:=(I.mem x hx).1 hb
   rw[List.length_eq_zero_iff.1 e]at hy;cases hy
 | .node pr heads bits kids,none,after,pre,listed,hT,_=>by
  obtain⟨⟨_,e1,e2,_⟩,_,_,_,TK⟩:=hT;exact zvI kids (some heads) after _ listed TK fun _=>by rw[e1];exact e2
 | .kid h c r,some H,after,pre,listed,hT,_=>fun x hx=>zvI c none _ _ _ hT.1 (fun e=>absurd rfl e) x (by rw[zvt];exact hx)
 | .done,some H,after,pre,listed,hT,ho=>absurd rfl (ho (by simp))
 | .leaf ..,some _,_,_,_,hT,_=>hT.elim
 | .node ..,some _,_,_,_,hT,_=>hT.elim
 | .kid ..,none,_,_,_,hT,_=>hT.elim
 | .done,none,_,_,_,hT,_=>hT.elim
theorem zvn {l:List Ai}{K:zW->List AObj->Prop}(hK:FE K):∀(T:Tr),
  (∀(after:List (List Nat)) (n:Nat) (pre:List (Nat × List Nat)) (listed:List Bool) (fr:zW) (σ:List AObj),TInv l T none after pre n listed->zdw P l pre fr σ (zmY P l K T)->aany P l after K n listed fr σ) ∧
  (∀(H:List Nat) (i:Nat) (after:List (List Nat)) (n:Nat) (pre:List (Nat × List Nat)) (listed:List Bool) (fr:zW) (σ:List AObj),TInv l T (some H) after pre n listed->i∈kidHs T->zdw P l pre fr σ (zmY P l K T)->aany P l (ztJ after i H) K n listed fr σ)
 | .leaf lin cl=>⟨fun after n pre listed fr σ hT h=>by
   obtain⟨e,I,hA⟩:=hT;exact zoU hA hK n _ listed fr σ e I (ziZ _ _ _ _ h),fun H i after n pre listed fr σ hT _ _=>hT.elim⟩
 | .kid h' c r=>⟨fun after n pre listed fr σ hT _=>hT.elim,fun H i after n pre listed fr σ hT hi h=>by
   rcases List.mem_cons.1 hi with e|hi
   ·subst e;exact(zvn hK c).1 _ n pre listed fr σ hT.1 (adraw_mono' (fun f s hs=>(zmk hs).1) pre fr σ h)
   ·exact(zvn hK r).2 H i after n pre listed fr σ hT.2 hi (adraw_mono' (fun f s hs=>(zmk hs).2) pre fr σ h)⟩
 | .done=>⟨fun after n pre listed fr σ hT _=>hT.elim,fun H i after n pre listed fr σ _ hi _=>by cases hi⟩
 | .node pr heads bits kids=>⟨fun after n pre listed fr σ hT h=>by
   have IK:=(zvn (l:=l) hK kids).2;have h:=ziZ (K:=zmY P l K kids) _ _ _ _ h;have go:∀(n:Nat) (pre':List (Nat × List Nat)) (listed:List Bool) (fr:zW) (σ:List AObj),
     ((∀h∈heads,h<after.length)/\kidHs kids=heads/\heads≠[]/\∀i,i<after.length->linA l after bits i=true) →
     (listed.length=after.length/\(∀i,i<after.length->listed.getD i true=true->∀j∈after.getD i [],listed.getD j false=true)/\∀h∈heads,listed.getD h false=false) →
     (∀y∈pre',y.1∉heads)->(∀x,x<after.length->listed.getD x true=false->x∈heads∨(∃y∈pre',y.1=x)∨∃h∈heads,(bits.getD x 0).testBit h=true) →
     TInv l kids (some heads) after pre' n listed->zdw P l pre' fr σ (zmY P l K kids)->aany P l after K n listed fr σ:=by
    intro n;induction n with
    | zero=>
     intro pre' listed fr σ ⟨hp,e1,e2,hA⟩ ⟨hlen,hdown,hup⟩ hpre hcov TK h
     obtain⟨q,hq⟩:=List.exists_mem_of_ne_nil _ e2
     have:=zvI kids (some heads) after _ listed TK (fun _=>by rw[e1];exact e2) q (hp q hq)
     rw[zrh hlen (hp q hq) true false,hup q hq]at this
     cases this
    | succ n ih=>
     intro pre' listed fr σ hs hs2 hpre hcov TK h
     obtain⟨hp,e1,e2,hA⟩:=hs
     obtain⟨hlen,hdown,hup⟩:=hs2
     refine⟨fun h0=>?_,fun i hi=>?_⟩
     ·obtain⟨q,hq⟩:=List.exists_mem_of_ne_nil _ e2
      have AA:=IK heads q after (n+1) pre' listed fr σ TK (by rw[e1];exact hq) h
      refine AA.1 ?_
      rw[List.eq_nil_iff_forall_not_mem]at h0 ⊢
      exact fun k hk=>h0 k (zqU _ _ hk)
     obtain⟨h1,h2,h3⟩:=zcx.1 hi
     have hset:∀d,(listed.set i true).getD i d=true:=fun d=>by simp[List.getD,List.getElem?_set,hlen,h1]
     by_cases hih:i∈heads
     ·have AA:=IK heads i after (n+1) pre' listed fr σ TK (by rw[e1];exact hih) h
      have h4:=AA.2 i (zmE heads after hi fun _=>.inl rfl)
      split at h4
      ·exact zel (fun f s hs=>zrE (hset _) _ _ hs) h4
      ·exact h4.elim
     have hin:∃y∈pre',y.1=i:=by
      rcases hcov i h1 h2 with h|h|⟨q,hq,h⟩
      ·exact absurd h hih
      ·exact h
      ·have:=zwK hA hlen hdown _ i (Nat.lt_succ_self _) h1 h3 q h;rw[hup q hq]at this;cases this
     obtain⟨y,hy,e⟩:=hin
     obtain⟨pre1,post1,rfl⟩:=List.append_of_mem hy
     obtain⟨i',nd⟩:=y
     simp only at e
     subst e
     obtain⟨_,_,x,hxl,_⟩:=ziO h1 (hA i' h1)
     have hex:=zsW (zvo hK kids) hxl post1 h kids (some heads) after post1 TK (fun H e=>by cases e;exact⟨hih,by rw[e1];exact e2⟩) h1 h2 h3
     simp only[hxl]
     have hset':∀j d,j≠i'→(listed.set i' true).getD j d=listed.getD j d:=fun j d hj=>by simp[List.getD,List.getElem?_set_ne (Ne.symm hj)]
     refine zel (fun f s hs=>ih (pre1++post1) (listed.set i' true) f s ⟨hp,e1,e2,hA⟩ ⟨by rw[List.length_set];exact hlen,fun x hx hl j hj=>?_,fun q hq=>by rw[hset' q _ (fun e=>hih (e▸hq))];exact hup q hq⟩ (fun y hy=>hpre y ?_) (fun x hx hl=>?_) (zrK kids (some heads) after post1 TK (fun H e=>by cases e;exact hih) h1 h2 h3) hs) hex
     ·have hj':listed.getD j false=true:=by
       by_cases hxi:x=i'
       ·subst hxi;exact h3 j hj
       ·rw[hset' x true hxi]at hl;exact hdown x hx hl j hj
      by_cases hji:j=i'
      ·subst hji;exact hset _
      ·rw[hset' j false hji];exact hj'
     ·rcases List.mem_append.1 hy with hy|hy
      ·exact List.mem_append_left _ hy
      ·exact List.mem_append_right _ (List.mem_cons_of_mem _ hy)
     ·by_cases hxi:x=i'
      ·subst hxi;rw[hset]at hl;cases hl
      ·rw[hset' x true hxi]at hl
       rcases hcov x hx hl with h|⟨y,hy,e⟩|h
       ·exact .inl h
       ·refine .inr (.inl ⟨y,?_,e⟩)
        rcases List.mem_append.1 hy with hy|hy
        ·exact List.mem_append_left _ hy
        ·rcases List.mem_cons.1 hy with rfl|hy
         ·exact absurd e.symm hxi
         ·exact List.mem_append_right _ hy
       ·exact .inr (.inr h)
   obtain⟨s1,s2,s3,s4,s5⟩:=hT;exact go n _ listed fr σ s1 s2 s3 s4 s5 h,fun H i after n pre listed fr σ hT _ _=>hT.elim⟩
theorem zrM {l:List Ai}:∀(T:Tr) (o:Option (List Nat)) (after:List (List Nat)) (pre:List (Nat × List Nat)),zuF l T o after pre=true->TInv l T o after pre after.length (List.replicate after.length false)
 | .leaf lin cl,none,after,pre,h=>zwe h
 | .node pr heads bits kids,none,after,pre,h=>by
  simp only[zuF,Bool.and_eq_true,Nat.blt_eq,Bool.not_eq_true',List.all_eq_true,List.any_eq_true,List.mem_range,Bool.or_eq_true,beq_iff_eq,List.contains_eq_mem,List.mem_map,decide_eq_true_eq,decide_eq_false_iff_not,List.isEmpty_eq_false_iff]at h;obtain⟨⟨⟨⟨⟨⟨hp,e1⟩,e2⟩,hA⟩,hpre⟩,hcov⟩,hTK⟩:=h;refine⟨⟨hp,e1,e2,hA⟩,⟨by simp,fun i hi e=>?_,fun q hq=>by simp[List.getD,hp q hq]⟩,hpre,fun x hx _=>?_,zrM kids (some heads) after _ hTK⟩
  ·simp[List.getD,hi]at e
  ·rcases hcov x hx with(h|h)|h
   ·exact .inl h
   ·exact .inr (.inl h)
   ·exact .inr (.inr h)
 | .kid h' c r,some H,after,pre,h=>by
  simp only[zuF,Bool.and_eq_true]at h;have:=zrM c none _ _ h.1;rw[zvt]at this;exact⟨this,zrM r (some H) _ _ h.2⟩
 | .done,some _,_,_,_=>trivial
 | .leaf ..,some _,_,_,h=>by simp[zuF]at h
 | .node ..,some _,_,_,h=>by simp[zuF]at h
 | .kid ..,none,_,_,h=>by simp[zuF]at h
 | .done,none,_,_,h=>by simp[zuF]at h
theorem treeC_any {l:List Ai}{after:List (List Nat)}{T:Tr}(h:zuF l T none after []=true){K:zW->List AObj->Prop}(hK:FE K){fr:zW}{σ:List AObj}
  (hd:zmY P l K T fr σ):aany P l after K after.length (List.replicate after.length false) fr σ:=
 (zvn hK T).1 after after.length [] _ fr σ (zrM T none after [] h) hd
def zyL (n:Nat) (fr:zW):Prop:=∀p∈fr,p.1<n
theorem ziA {l:List Ai}{n:Nat}(hl:∀x∈l,∀d,x.dst=some d->d<n){K:zW->List AObj->Prop}:∀(lin:List (Nat × List Nat)) (fr:zW) (σ:List AObj),zyL n fr->zdw P l lin fr σ K->zdw P l lin fr σ fun f s=>zyL n f/\K f s
 | [],fr,σ,hf,h=>⟨hf,h⟩
 | (i,nd)::r,fr,σ,hf,h=>by
  unfold zdw at *;split at h
  ·rename_i x hx;refine zvz (fun _ _=>rfl) (fun u s hs=>?_) h;rw[zkz]at hs ⊢;refine⟨hs.1,ziA hl r _ s (fun p hp=>?_) hs.2⟩;unfold aput at hp;split at hp
   ·rename_i d hd;rcases List.mem_cons.1 hp with rfl|hp
    ·exact hl x (List.mem_of_getElem? hx) d hd
    ·exact hf p hp
   ·exact hf p hp
  ·exact h
theorem ziz {l:List Ai}{K K':zW->List AObj->Prop}(hk:∀f s,K f s->K' f s):∀(lin:List (Nat × List Nat)) (fr:zW) (σ:List AObj),zdw P l lin fr σ K->zdw P l lin fr σ K'
 | [],fr,σ,h=>hk _ _ h
 | (i,nd)::r,fr,σ,h=>by
  unfold zdw at *;split at h
  ·refine zel (fun f s hs=>?_) h;rw[zkz]at hs ⊢;exact⟨hs.1,ziz hk r _ s hs.2⟩
  ·exact h
theorem zpr {l:List Ai}{n:Nat}(hl:∀x∈l,∀d,x.dst=some d->d<n){K K':zW->List AObj->Prop}(hk:∀f s,zyL n f->K f s->K' f s):∀(T:Tr) (fr:zW) (σ:List AObj),zyL n fr->zmY P l K T fr σ->zmY P l K' T fr σ
 | .leaf lin _,fr,σ,hf,h=>ziz (fun f s hh=>hk f s hh.1 hh.2) _ fr σ (ziA hl _ fr σ hf h)
 | .node pre _ _ kids,fr,σ,hf,h=>ziz (fun g s hh=>zpr hl hk kids g s hh.1 hh.2) _ fr σ (ziA hl _ fr σ hf h)
 | .kid _ c r,fr,σ,hf,h=>treeW_kid' ⟨zpr hl hk c fr σ hf (zmk h).1,zpr hl hk r fr σ hf (zmk h).2⟩
 | .done,_,_,_,_=>trivial
inductive Ex where
 | normal
 | exit (id:Nat)
 | ret
def awp (P:Program):AC->(Ex->zW->List AObj->Prop)->zW->List AObj->Prop
 | .skip,Q,fr,σ=>Q .normal fr σ
 | .ops l,Q,fr,σ=>aops P l fr σ (Q .normal)
 | .draw l after lin cl,Q,fr,σ=>match linOk l after lin cl with
  | true=>zdw P l lin fr σ (Q .normal)
  | false=>match twoOk l after lin cl with
   | true=>zdw P l (lin.take (twoK cl)) fr σ fun f s=>zdw P l ((lin.take after.length).drop (twoK cl)) f s (Q .normal)/\zdw P l (lin.drop after.length) f s (Q .normal)
   | false=>match zuF l (trOf after.length 60 lin (cl.drop 1)) none after []with
    | true=>zmY P l (Q .normal) (trOf after.length 60 lin (cl.drop 1)) fr σ
    | false=>False
 | .seq a b,Q,fr,σ=>awp P a (fun|.normal,fr',σ'=>awp P b Q fr' σ'|e,fr',σ'=>Q e fr' σ') fr σ
 | .cond c a b,Q,fr,σ=>zh (ev fr c) (awp P a Q fr σ) (awp P b Q fr σ)
 | .block id a,Q,fr,σ=>awp P a (fun|.exit id',fr',σ'=>if id'=id then Q .normal fr' σ' else Q (.exit id') fr' σ'|e,fr',σ'=>Q e fr' σ') fr σ
 | .loop lv dd a,Q,fr,σ=>zaZ (lv.map (zhn fr)) σ fun vs σ' again=>
   awp P a (fun|.normal,f,s=>again (lv.map (zhn f)) s|e,f,s=>Q e f s) (setS (kill fr dd) lv vs) σ'
 | .rangeF g ps a b,Q,fr,σ=>rangeFC P (ev fr g) ps.length σ (fun x s id r0 rb next=>
   awp P a (fun|.normal,f,s1=>s1[id]? = some r0/\awp P b (fun|.normal,_,s2=>s2[id]? = some rb/\next (s2.set id r0)|_,_,_=>False) f (s1.set id rb)|_,_,_=>False) (putF fr ps x) s) fun s=>Q .normal fr s
 | .exit id,Q,fr,σ=>Q (.exit id) fr σ
 | .ret,Q,fr,σ=>Q .ret fr σ
open Go.RowKit
section
variable {P:Program} {ro:Option Nat} {rm:Nat}
def zji (A:List Nat) (a a':Act):Prop:=a'.tmps.size=a.tmps.size/\∀i,i∉A->a'.tmps[i]? = a.tmps[i]?
theorem zji.refl (A:List Nat)(a:Act):zji A a a:=⟨rfl,fun _ _=>rfl⟩
theorem zji.trans {A B:List Nat}{a b c:Act}(h:zji A a b)(k:zji B b c):zji (A++B) a c:=⟨k.1.trans h.1,fun i hi=>by
 simp only[List.mem_append,not_or]at hi;exact(k.2 i hi.2).trans (h.2 i hi.1)⟩
theorem zji.mono {A B:List Nat}{a b:Act}(h:zji A a b)(hs:∀i∈A,i∈B):zji B a b:=⟨h.1,fun i hi=>h.2 i (fun hA=>hi (hs i hA))⟩
theorem zji.put (a:Act)(dst:Option Nat)(v:Value):zji dst.toList a (a.put dst v):=⟨by cases dst<;>simp[Act.put],fun i hi=>by
 cases dst with
 | none=>rfl
 | some d=>
  simp at hi
  simp only[Act.put,Array.getElem?_setIfInBounds]
  rw[if_neg (fun e=>hi e.symm)]⟩
def asg:AC->List Nat
 | .ops l=>l.filterMap (·.dst)
 | .draw l _ _ _=>l.filterMap (·.dst)
 | .seq a b=>asg a++asg b
 | .cond _ a b=>asg a++asg b
 | .block _ a=>asg a
 | .loop _ _ a=>asg a
 | _=>[]
def dstOk (n:Nat) (x:Ai):Bool:=match x.dst with|none=>true|some d=>Nat.blt d n
def nodup:List Nat->Bool
 | []=>true
 | a::l=>l.all (fun b=>Nat.blt a b || Nat.blt b a)&&nodup l
theorem zyB:∀ {l:List Nat},nodup l=true->l.Nodup
 | [],_=>.nil
 | a::l,h=>by
  simp only[nodup,Bool.and_eq_true,List.all_eq_true,Bool.or_eq_true,Nat.blt_eq]at h;exact List.nodup_cons.2 ⟨fun hm=>by have:=h.1 a hm;omega,zyB h.2⟩
def AC.noRF:AC->Bool
 | .seq a b=>a.noRF&&b.noRF
 | .cond _ a b=>a.noRF&&b.noRF
 | .block _ a=>a.noRF
 | .loop _ _ a=>a.noRF
 | .rangeF ..=>false
 | _=>true
def AC.ok (n:Nat):AC->Bool
 | .ops l=>l.all (dstOk n)
 | .draw l _ _ _=>l.all (dstOk n)
 | .seq a b=>a.ok n&&b.ok n
 | .cond _ a b=>a.ok n&&b.ok n
 | .block _ a=>a.ok n
 | .rangeF _ ps a b=>a.ok n&&b.ok n&&a.noRF&&b.noRF&&ps.all fun i=>Nat.blt i n
 | .loop lv dd a=>a.ok n&&nodup lv&&lv.all (fun i=>Nat.blt i n)&&dd.all (fun i=>Nat.blt i n)&&(asg a).all fun i=>lv.contains i || dd.contains i
 | _=>true
theorem zAz {n:Nat}{x:Ai}(h:dstOk n x=true)(d:Nat)(hd:x.dst=some d):d<n:=by
 simp only[dstOk,hd]at h;rwa [Nat.blt_eq]at h
abbrev Then (A:List Nat) (a:Act) (L:Nat->Loc) (σ:List AObj) (w:World) (K:zW->List AObj->Prop) (next:Act->World->Prop):Prop:=
 ∀fr' L' σ' a' w',zdx L σ w L' σ' w'→Sim L' σ' w'→FR w' L' σ' fr' a'.tmps->a'.defers=a.defers->zji A a a'→K fr' σ'→next a' w'
theorem FR.aput {w:World}{L:Nat->Loc}{σ:List AObj}{fr:zW}{a:Act}(h:FR w L σ fr a.tmps){x:AV}{v:Value}(hv:RV w L σ x v){dst:Option Nat}(hd:∀d,dst=some d->d<a.tmps.size):FR w L σ (aput fr dst x) (a.put dst v).tmps:=by
 cases dst with
 | none=>exact h
 | some d=>exact h.put (hd d rfl) hv
theorem zyu (a:Act)(dst:Option Nat)(v:Value):(a.put dst v).defers=a.defers:=by cases dst<;>rfl
theorem aop_sound {ops:Array Oper}{i:Nat}{x:Ai}{o:Oper}{fr:zW}{σ:List AObj}{L:Nat->Loc}{w:World}{a:Act}{K:zW->List AObj->Prop}{next:Act->World->Prop}{Q:Exit->Act->World->Prop}
  (ho:ops[i]? = some o) (hc:zwP P ops o=some x.norm) (S:Sim L σ w) (F:FR w L σ fr a.tmps) (h:aop P x fr σ K) (hdst:∀d,x.dst=some d->d<a.tmps.size) (hk:Then x.dst.toList a L σ w K next):wpOpIn (Fr ro) rm P ops Q i next a w:=by
 unfold wpOpIn;simp only[ho];simp only[zwP,Option.bind_eq_bind,Option.bind_eq_some_iff]at hc;obtain⟨i',hi,hc⟩:=hc;have step1:∀ {K':AV->List AObj->Prop},zaQ P x.i fr σ (fun r σ'=>K (aput fr x.dst r) σ')->i'=x.i.norm->o.dst=x.dst->o.wpIn (Fr ro) rm P a w next Q:=fun{K'} h1 e1 e2=>by
  subst e1;refine(astep_sound hi S F h1).wpIn (fun c hd=>by simp[zcC,hd]at hi) fun r v L' σ' w' s S' hr hK=>?_;rw[e2];exact hk _ L' σ' _ w' s S' ((s.fr F).aput hr hdst) (zyu _ _ _) (zji.put _ _ _) hK
 have skip1:o.dst=x.dst->K (aput fr x.dst (.tup [])) σ->next (a.put o.dst undef) w:=fun e2 hK=>by
  rw[e2];exact hk _ L σ _ w (zdx.refl _ _ _) S (F.aput (.tup [] [] rfl (by simp)) hdst) (zyu _ _ _) (zji.put _ _ _) hK
 split at hc
 ·rename_i hg;simp only[Option.pure_def,Option.some.injEq]at hc;have hx1:x.norm.g=none:=by rw[← hc]
  have hx2:i'=x.i.norm:=by have:=congrArg Ai.i hc;exact this
  have hx3:o.dst=x.dst:=by have:=congrArg Ai.dst hc;exact this
  have hxg:x.g=none:=hx1;simp only[aop,hxg]at h;rw[if_pos (by simp[Region.wanted,hg])];exact(step1 (K':=fun _ _=>True) h hx2 hx3)
 ·rename_i j want hg;simp only[Option.bind_eq_some_iff,Option.pure_def,Option.some.injEq]at hc;obtain⟨oj,hoj,d,hd,hc⟩:=hc;have hx2:i'=x.i.norm:=by have:=congrArg Ai.i hc;exact this
  have hx3:o.dst=x.dst:=by have:=congrArg Ai.dst hc;exact this
  have hxg:x.g=some (d,want):=by have:=congrArg Ai.g hc;exact this.symm
  simp only[aop,hxg]at h;have hyl:yielded ops a.tmps j=match a.tmps[d]? with|some (.bool b)=>some b|_=>none:=by
   simp only[yielded,hoj,hd,Option.bind_some];rfl
  have hw:Region.wanted o (yielded ops a.tmps)=(yielded ops a.tmps j==some want):=by simp[Region.wanted,hg]
  have hat:∀ {c},zhn fr d=c->c≠.undef->∃v,a.tmps[d]? = some v/\RV w L σ c v:=fun{c} hc hne=>by
   have hl:d<a.tmps.size:=by
    rcases Nat.lt_or_ge d a.tmps.size with h|h
    ·exact h
    ·exact absurd (hc.symm.trans (zsl (fun p hp e=>by have:=F.keys p hp;omega))) hne
   have hv:a.tmps[d]? = some a.tmps[d]:=Array.getElem?_eq_getElem _;exact⟨_,hv,hc▸F.at_ d _ hv⟩
  unfold ziQ at h;split at h
  ·rename_i b hfr;obtain⟨v,hv,hr⟩:=hat hfr (fun e=>by cases e);have hb:=hr.bool_inv;subst hb;rw[hw,hyl,hv];by_cases hbw:b=want
   ·subst hbw;rw[if_pos (by simp)];exact(step1 (K':=fun _ _=>True) (h.1 (by simp)) hx2 hx3)
   ·rw[if_neg (by simpa using hbw)];exact⟨fun _ _=>trivial,skip1 hx3 (h.2 (by simpa using hbw))⟩
  ·rename_i hfr;obtain⟨v,hv,hr⟩:=hat hfr (fun e=>by cases e);have hb:=hr.nil_tup;subst hb;rw[hw,hyl,hv,if_neg (by simp)];exact⟨fun _ _=>trivial,skip1 hx3 h⟩
  ·exact h.elim
theorem zzo {ops:Array Oper}{Q:Exit->Act->World->Prop}:∀(l:List Ai) (s:Nat) (fr:zW) (σ:List AObj) (L:Nat->Loc) (w:World) (a:Act) (K:zW->List AObj->Prop),
  l.length+s=ops.size->(∀(k:Nat) x,l[k]? = some x->∃o,ops[s+k]? = some o/\zwP P ops o=some x.norm)->Sim L σ w->FR w L σ fr a.tmps->l.all (dstOk a.tmps.size)=true->aops P l fr σ K->Then (l.filterMap (·.dst)) a L σ w K (Q .normal)->wpOpsIn (Fr ro) rm P ops Q (List.range' s l.length) a w
 | [],s,fr,σ,L,w,a,K,_,_,S,F,_,h,hk=>by
  simp only[List.length_nil,List.range'_zero,wpOpsIn];exact hk fr L σ a w (zdx.refl _ _ _) S F rfl (zji.refl _ _) h
 | x::l,s,fr,σ,L,w,a,K,hl,hx,S,F,hok,h,hk=>by
  simp only[List.all_cons,Bool.and_eq_true]at hok;simp only[List.length_cons]at hl ⊢;rw[List.range'_succ,wpOpsIn_cons];obtain⟨o,ho,hc⟩:=hx 0 x rfl;refine aop_sound ho hc S F h (zAz hok.1) fun fr' L' σ' a' w' st S' F' hd hag hK=>?_;refine zzo l (s+1) fr' σ' L' w' a' K (by omega) (fun k y hy=>?_) S' F' (by rw[hag.1];exact hok.2) hK fun fr2 L2 σ2 a2 w2 st2 S2 F2 hd2 hag2 hK2=>hk fr2 L2 σ2 a2 w2 (st.trans st2) S2 F2 (hd2.trans hd) ((hag.trans hag2).mono fun i hi=>by
   cases hx':x.dst<;>simp_all) hK2
  obtain⟨o',ho',hc'⟩:=hx (k+1) y hy;exact⟨o',by rw[← ho'];congr 1;omega,hc'⟩
theorem ready_eq {ops:Array Oper}{after:List (List Nat)}(ha:after=ops.toList.map deps)(listed:Array Bool)(l':List Bool)(hl:l'=listed.toList) :
  zib after l'=Region.ready .any ops listed:=by
 subst ha hl;unfold zib Region.ready;simp only[List.length_map,Array.length_toList];apply List.filter_congr;intro i hi;have hi':i<ops.size:=List.mem_range.1 hi;have e1:listed.toList.getD i true=listed.getD i true:=by simp[List.getD,Array.getD,Array.getElem?_toList];split<;>simp_all
 rw[e1];congr 1;have e2:(ops.toList.map deps).getD i []=deps ops[i]:=by simp[List.getD,hi']
 rw[e2];simp only[Array.getElem?_eq_getElem hi',Option.map_some,Option.getD_some,deps];have key:∀k,listed.toList.getD k false=listed.getD k false:=fun k=>by simp[List.getD,Array.getD,Array.getElem?_toList];split<;>simp_all
 rw[Bool.eq_iff_iff];simp only[List.all_eq_true,List.mem_map,List.mem_filter,Array.all_eq_true',Bool.or_eq_true,Bool.not_eq_true',key];constructor
 ·intro h e he;by_cases hb:Region.binds .any e=true
  ·exact .inr (h e.on ⟨e,⟨by simpa using he,hb⟩,rfl⟩)
  ·left;simpa using hb
 ·rintro h x ⟨e,⟨he,hb⟩,rfl⟩;rcases h e (by simpa using he)with h1|h1
  ·rw[hb]at h1;cases h1
  ·exact h1
theorem zzp {ops:Array Oper}{Q:Exit->Act->World->Prop}{l:List Ai}{after:List (List Nat)}(ha:after=ops.toList.map deps)(hl:l.length=ops.size)
  (hx:∀(k:Nat) x,l[k]? = some x->∃o,ops[k]? = some o/\zwP P ops o=some x.norm):∀(n:Nat) (listed:Array Bool) (l':List Bool) (fr:zW) (σ:List AObj) (L:Nat->Loc) (w:World) (a:Act) (K:zW->List AObj->Prop),
  l'=listed.toList->Sim L σ w->FR w L σ fr a.tmps->l.all (dstOk a.tmps.size)=true->aany P l after K n l' fr σ->Then (l.filterMap (·.dst)) a L σ w K (Q .normal)->wpAnyIn (Fr ro) rm P .any ops Q n listed a w
 | 0,listed,l',fr,σ,L,w,a,K,e,S,F,_,h,hk=>by
  have hr:=ready_eq ha listed l' e;exact⟨by rw[← hr];exact h.1,hk fr L σ a w (zdx.refl _ _ _) S F rfl (zji.refl _ _) h.2⟩
 | n+1,listed,l',fr,σ,L,w,a,K,e,S,F,hok,h,hk=>by
  have hr:=ready_eq ha listed l' e;refine⟨fun h0=>hk fr L σ a w (zdx.refl _ _ _) S F rfl (zji.refl _ _) (h.1 (by rw[hr];exact h0)),fun i hi=>?_⟩;have h2:=h.2 i (by rw[hr];exact hi);split at h2
  ·rename_i x hxi;obtain⟨o,ho,hc⟩:=hx i x hxi;refine aop_sound ho hc S F h2 (zAz (List.all_eq_true.1 hok x (List.mem_of_getElem? hxi))) fun fr' L' σ' a' w' st S' F' hd hag hK=>?_;exact zzp ha hl hx n (listed.setIfInBounds i true) (l'.set i true) fr' σ' L' w' a' K (by rw[e];simp) S' F' (by rw[hag.1];exact hok) hK fun fr2 L2 σ2 a2 w2 st2 S2 F2 hd2 hag2 hK2=>hk fr2 L2 σ2 a2 w2 (st.trans st2) S2 F2 (hd2.trans hd) ((hag.trans hag2).mono fun j hj=>by
    rcases List.mem_append.1 hj with h|h
    ·exact List.mem_filterMap.2 ⟨x,List.mem_of_getElem? hxi,by simpa using h⟩
    ·exact h) hK2
  ·exact h2.elim
def zsf (D:Nat):Deferred:={ target:=.collected D,args:=#[] }
def Marks (b0:Nat) (ds:List Deferred) (L:Nat->Loc) (σ:List AObj) (w:World):Prop:=
 b0<=w.heap.size/\∃Ds:List Nat,ds=Ds.map zsf/\Ds.Nodup/\∀D∈Ds,b0<=D/\w.heap[D]? = some (.deferred (some []))/\∀o,¬Own L σ D o
theorem Marks.step {b0:Nat}{ds:List Deferred}{L L':Nat->Loc}{σ σ':List AObj}{w w':World}(h:Marks b0 ds L σ w)(s:zdx L σ w L' σ' w'):Marks b0 ds L' σ' w':=by
 obtain⟨h0,Ds,h1,h2,h3⟩:=h;refine⟨Nat.le_trans h0 s.size,Ds,h1,h2,fun D hD=>?_⟩;obtain⟨k1,k2,k3⟩:=h3 D hD;have hlt:=(Array.getElem?_eq_some_iff.1 k2).1;exact⟨k1,(s.blk D hlt k3).trans k2,fun o ho=>k3 o (s.own D o hlt ho)⟩
structure zmV (b0:Nat) (A:List Nat) (a0:Act) (L:Nat->Loc) (σ:List AObj) (w:World) (Q:zW->List AObj->Prop) (a:Act) (w':World):Prop where
 ex:∃L' σ' fr',zdx L σ w L' σ' w'∧Sim L' σ' w'∧FR w' L' σ' fr' a.tmps/\Marks b0 a.defers L' σ' w'∧zji A a0 a/\Q fr' σ'
def lift (b0:Nat) (A:List Nat) (a0:Act) (L:Nat->Loc) (σ:List AObj) (w:World) (Q:Ex->zW->List AObj->Prop):Exit->Act->World->Prop
 | .normal,a,w'=>zmV b0 A a0 L σ w (Q .normal) a w'
 | .exit id,a,w'=>zmV b0 A a0 L σ w (Q (.exit id)) a w'
 | .ret,a,w'=>zmV b0 A a0 L σ w (Q .ret) a w'
 | _,_,_=>False
theorem zmV.widen {b0:Nat}{A B:List Nat}{a0 a1:Act}{L L1:Nat->Loc}{σ σ1:List AObj}{w w1:World}{Q:zW->List AObj->Prop}{a:Act}{w':World}(st:zdx L σ w L1 σ1 w1)(hag:zji A a0 a1)(h:zmV b0 B a1 L1 σ1 w1 Q a w'):zmV b0 (A++B) a0 L σ w Q a w':=by
 obtain⟨L',σ',fr',s,S,F,hd,hg,hq⟩:=h;exact⟨L',σ',fr',st.trans s,S,F,hd,hag.trans hg,hq⟩
theorem zmV.more {b0:Nat}{A B:List Nat}{a0:Act}{L:Nat->Loc}{σ:List AObj}{w:World}{Q:zW->List AObj->Prop}{a:Act}{w':World}(h:zmV b0 A a0 L σ w Q a w')(hs:∀i∈A,i∈B):zmV b0 B a0 L σ w Q a w':=by
 obtain⟨L',σ',fr',s,S,F,hd,hg,hq⟩:=h;exact⟨L',σ',fr',s,S,F,hd,hg.mono hs,hq⟩
theorem mapO {ops:Array Oper}{l:List Ai}(h:ops.toList.mapM (zwP P ops)=some (l.map Ai.norm)):l.length=ops.size/\∀(k:Nat) x,l[k]? = some x->∃o,ops[k]? = some o/\zwP P ops o=some x.norm:=by
 obtain⟨h1,h2⟩:=mapM_some h;have hl:l.length=ops.size:=by simpa using h1
 refine⟨hl,fun k x hk=>?_⟩;have hlt:=zo hk;have ho:ops[k]? = some (ops[k]'(by omega)):=Array.getElem?_eq_getElem _;exact⟨_,ho,h2 k _ x.norm (by simpa using ho) (by simp[hk])⟩
theorem getS_kill:∀(dd:List Nat) (fr:zW) (i:Nat),zhn (kill fr dd) i=if i∈dd then .undef else zhn fr i
 | [],fr,i=>by simp[kill]
 | j::dd,fr,i=>by
  simp only[kill];rw[getS_kill dd _ i,zmw];by_cases h1:i∈dd
  ·simp[h1]
  ·by_cases h2:i=j<;>simp[h1,h2]
theorem keys_kill:∀(dd:List Nat) (fr:zW) {n:Nat},(∀p∈fr,p.1<n)->(∀i∈dd,i<n)->∀p∈kill fr dd,p.1<n
 | [],fr,n,h,_=>h
 | j::dd,fr,n,h,hd=>keys_kill dd _ (fun p hp=>by
   rcases List.mem_cons.1 hp with rfl|hp
   ·exact hd j (by simp)
   ·exact h p hp) (fun i hi=>hd i (by simp[hi]))
theorem zwi:∀(lv:List Nat) (fr:zW) (vs:List AV) {n:Nat},(∀p∈fr,p.1<n)->(∀i∈lv,i<n)->∀p∈setS fr lv vs,p.1<n
 | [],fr,_,n,h,_=>h
 | j::lv,fr,vs,n,h,hd=>zwi lv _ _ (fun p hp=>by
   rcases List.mem_cons.1 hp with rfl|hp
   ·exact hd j (by simp)
   ·exact h p hp) (fun i hi=>hd i (by simp[hi]))
theorem zsk (g:Nat->AV):∀(lv:List Nat) (fr:zW) (i:Nat),zhn (setS fr lv (lv.map g)) i=if i∈lv then g i else zhn fr i
 | [],fr,i=>by simp[setS]
 | j::lv,fr,i=>by
  simp only[List.map_cons,setS,List.drop_succ_cons,List.drop_zero];rw[zsk g lv _ i,zmw];by_cases h1:i∈lv
  ·simp[h1]
  ·by_cases h2:i=j
   ·subst h2;simp[h1,List.getD]
   ·simp[h1,h2]
theorem FR.head {w:World}{L:Nat->Loc}{σ:List AObj}{fr fr':zW}{a a':Act}{A lv dd:List Nat}(F:FR w L σ fr a.tmps)(F':FR w L σ fr' a'.tmps)(hag:zji A a a')(hA:∀i∈A,i∈lv∨i∈dd)
  (h1:∀i∈lv,i<a.tmps.size) (h2:∀i∈dd,i<a.tmps.size):FR w L σ (setS (kill fr dd) lv (lv.map (zhn fr'))) a'.tmps:=by
 refine⟨fun i v hv=>?_,by rw[hag.1];exact zwi lv _ _ (keys_kill dd _ F.keys h2) h1⟩;rw[zsk,getS_kill];split
 ·exact F'.at_ i v hv
 ·rename_i hi;split
  ·exact .undef v
  ·rename_i hd;have hA':i∉A:=fun h=>(hA i h).elim hi hd;rw[hag.2 i hA']at hv;exact F.at_ i v hv
theorem zmj {vs vs':List AV}{σ σ':List AObj}(hw:zqk vs σ vs' σ'):∀ {L:Nat->Loc} {w:World} {us:List Value},Sim L σ w->RVs w L σ vs us->∃L',zdx L σ w L' σ' w/\Sim L' σ' w/\RVs w L' σ' vs' us:=by
 have setv:∀ {L:Nat->Loc} {w:World} {σ:List AObj} {vs:List AV} {us:List Value} {i:Nat} {a:AV},RVs w L σ vs us->(∀u,us[i]? = some u->RV w L σ a u)->RVs w L σ (vs.set i a) us:=fun{L w σ vs us i a} h ha=>by
  refine⟨by rw[List.length_set];exact h.1,fun j c u hc hu=>?_⟩;rw[List.getElem?_set]at hc;split at hc
  ·rename_i e;subst e;split at hc
   ·cases hc;exact ha u hu
   ·cases hc
  ·exact h.2 j c u hc hu
 induction hw with
 | refl vs σ=>intro L w us S hv;exact⟨L,zdx.refl _ _ _,S,hv⟩
 | tok i es sz hi hes _ ih=>
  rename_i vs σ vs' σ'
  intro L w us S hv
  have hlt:=zo hi
  have hu:us[i]? = some (us[i]'(by rw[hv.1];exact hlt)):=List.getElem?_eq_getElem _
  obtain⟨a,hv',hrd,ha,hs⟩:=zmx (hv.2 i _ _ hi hu)
  obtain⟨st,S2⟩:=add_tok S sz es.length a ha hs
  obtain⟨L',s',S',h'⟩:=ih S2 (setv ⟨hv.1,fun j c u hc hu=>st.rv (hv.2 j c u hc hu)⟩ fun u hu'=>by
   rw[hu]at hu';cases hu';refine .own _ _ _ sz es.length (by simp) (Nat.le_refl _) hes (st.rd hrd) fun _=>?_;rw[hv',zY];cases a<;>rfl)
  exact⟨L',st.trans s',S',h'⟩
 | row i sz hi hsz _ ih=>
  rename_i vs σ vs' σ'
  intro L w us S hv
  have hlt:=zo hi
  have hu:us[i]? = some (us[i]'(by rw[hv.1];exact hlt)):=List.getElem?_eq_getElem _
  obtain⟨a,hv',hrd,ha,hs⟩:=zmx (hv.2 i _ _ hi hu)
  obtain⟨st,S2,hr⟩:=add_row S sz hsz a
  obtain⟨L',s',S',h'⟩:=ih S2 (setv ⟨hv.1,fun j c u hc hu=>st.rv (hv.2 j c u hc hu)⟩ fun u hu'=>by
   rw[hu]at hu';cases hu';rw[hv'];exact hr)
  exact⟨L',st.trans s',S',h'⟩
 | tokB id j cs es sz hid hj hes _ ih=>
  rename_i vs σ vs' σ'
  intro L w us S hv
  obtain⟨L1,st,S1⟩:=box_tok S hid hj sz hes
  obtain⟨L',s',S',h'⟩:=ih S1 ⟨hv.1,fun j c u hc hu=>st.rv (hv.2 j c u hc hu)⟩
  exact⟨L',st.trans s',S',h'⟩
 | rowB id j cs sz hid hj hsz _ ih=>
  rename_i vs σ vs' σ'
  intro L w us S hv
  obtain⟨L1,st,S1⟩:=box_row S hid hj sz hsz
  obtain⟨L',s',S',h'⟩:=ih S1 ⟨hv.1,fun j c u hc hu=>st.rv (hv.2 j c u hc hu)⟩
  exact⟨L',st.trans s',S',h'⟩
 | cut i t g sz lo hi cs hi' ht _ ih=>
  rename_i vs σ vs' σ'
  intro L w us S hv
  have hlt:=zo hi'
  have hu:us[i]? = some (us[i]'(by rw[hv.1];exact hlt)):=List.getElem?_eq_getElem _
  obtain⟨st,S1,hr⟩:=row_cut S ht (hv.2 i _ _ hi' hu)
  obtain⟨L',s',S',h'⟩:=ih S1 (setv ⟨hv.1,fun j c u hc hu=>st.rv (hv.2 j c u hc hu)⟩ fun u hu'=>by
   rw[hu]at hu';cases hu';exact hr)
  exact⟨L',st.trans s',S',h'⟩
 | data i c es hi hc _ ih=>
  rename_i vs σ vs' σ'
  intro L w us S hv
  have hlt:=zo hi
  have hu:us[i]? = some (us[i]'(by rw[hv.1];exact hlt)):=List.getElem?_eq_getElem _
  have hrd:=(hv.2 i _ _ hi hu).esOf_inv hc
  exact ih S (setv hv fun u hu'=>by rw[hu]at hu';cases hu';exact .d _ _ hrd)
 | dataB id j cs c es hid hj hc _ ih=>
  rename_i vs σ vs' σ'
  intro L w us S hv
  obtain⟨_,_,hcells⟩:=S.obj id _ hid
  obtain⟨_,u,hu,hr⟩:=hcells j _ hj
  obtain⟨st,S1⟩:=box_retell' S hid hj (c':=.d (.slice es)) (fun v hv=>by
   rw[hu]at hv;cases hv;exact .d _ _ (hr.esOf_inv hc))
  obtain⟨L',s',S',h'⟩:=ih S1 ⟨hv.1,fun j c u hc hu=>st.rv (hv.2 j c u hc hu)⟩
  exact⟨L',st.trans s',S',h'⟩
 | dataR t j g sz cs c es ht hj hc _ ih=>
  rename_i vs σ vs' σ'
  intro L w us S hv
  obtain⟨st,S1⟩:=row_retell S ht hj (c':=.d (.slice es)) rfl (fun v hv=>.d _ _ (hv.esOf_inv hc))
  obtain⟨L',s',S',h'⟩:=ih S1 ⟨hv.1,fun j c u hc hu=>st.rv (hv.2 j c u hc hu)⟩
  exact⟨L',st.trans s',S',h'⟩
theorem nodup_fun:∀ {lv:List Nat} {vs:List AV},lv.Nodup->vs.length=lv.length->∃g:Nat->AV,lv.map g=vs
 | [],vs,_,h=>⟨fun _=>.undef,by rw[List.eq_nil_of_length_eq_zero (l:=vs) (by simpa using h)];rfl⟩
 | i::lv,[],_,h=>by simp at h
 | i::lv,v::vs,hn,h=>by
  rw[List.nodup_cons]at hn;obtain⟨g,hg⟩:=nodup_fun hn.2 (vs:=vs) (by simpa using h);refine⟨fun k=>if k=i then v else g k,?_⟩;simp only[List.map_cons,if_true,List.cons.injEq,true_and];rw[← hg];exact List.map_congr_left fun k hk=>by rw[if_neg (fun e:k=i=>hn.1 (e▸hk))]
theorem FR.retold {w:World}{L L':Nat->Loc}{σ σ':List AObj}{fr:zW}{ts:Array Value}(F:FR w L σ fr ts)(s:zdx L σ w L' σ' w){lv:List Nat}(hn:lv.Nodup)(hlt:∀i∈lv,i<ts.size){vs':List AV}(hv:RVs w L' σ' vs' (lv.map fun i=>ts.getD i undef)) :
  ∃fr',FR w L' σ' fr' ts/\lv.map (zhn fr')=vs':=by
 obtain⟨g,rfl⟩:=nodup_fun (vs:=vs') hn (by have:=hv.1;simpa using this.symm);refine⟨setS fr lv (lv.map g),⟨fun i v hi=>?_,zwi lv _ _ F.keys hlt⟩,List.map_congr_left fun i hi=>by rw[zsk,if_pos hi]⟩;rw[zsk];split
 ·rename_i hm;obtain⟨k,hk⟩:=List.mem_iff_getElem?.1 hm;refine hv.2 k (g i) v (by simp[hk]) ?_;simp only[List.getElem?_map,hk,Option.map_some,Option.some.injEq];have:=(Array.getElem?_eq_some_iff.1 hi).1;rw[Array.getElem?_eq_getElem this]at hi;simp[Array.getD,this];exact Option.some.inj hi
 ·exact s.rv (F.at_ i v hi)
theorem wpIn_any {ro:Option Nat}{n m:Nat}{c:Code}{Q:Exit->Act->World->Prop}{a:Act}{w:World}(h:c.wpIn (Fr ro) n P Q a w):c.wpIn (Fr ro) m P Q a w:=fun b k cs h1 h2 _=>h b k cs h1 h2 (room_fr _ _)
theorem zyw {L:Nat->Loc}{σ:List AObj}{w:World}:∀(ps:List Nat) (xs:List AV) (us:List Value) (fr:zW) (ts:Array Value),FR w L σ fr ts->(∀p∈ps,p<ts.size)->RVs w L σ xs us->xs.length=ps.length →
  FR w L σ (putF fr ps xs) ((ps.zip us).foldl (fun t (p:Nat × Value)=>t.setIfInBounds p.1 p.2) ts)/\((ps.zip us).foldl (fun t (p:Nat × Value)=>t.setIfInBounds p.1 p.2) ts).size=ts.size
 | [],xs,us,fr,ts,F,_,_,_=>by simpa [putF] using F
 | p::ps,[],us,fr,ts,F,_,_,h=>by simp at h
 | p::ps,x::xs,[],fr,ts,F,_,hv,_=>by have:=hv.1;simp at this
 | p::ps,x::xs,u::us,fr,ts,F,hp,hv,h=>by
  have F1:=F.put (i:=p) (hp p (.head _)) (hv.2 0 x u rfl rfl);obtain⟨g1,g2⟩:=zyw ps xs us ((p,x)::fr) (ts.setIfInBounds p u) F1 (fun q hq=>by simpa using hp q (.tail _ hq)) ⟨by have:=hv.1;simpa using this,fun i c v hc hv'=>hv.2 (i+1) c v (by simpa using hc) (by simpa using hv')⟩ (by simpa using h);exact⟨by simpa [putF] using g1,by simpa using g2⟩
theorem awp_sound (hP:P.follows .mixedOrders=true):∀(c:Code) (ro:Option Nat) (b0:Nat) (ac:AC) (Q:Ex->zW->List AObj->Prop) (fr:zW) (σ:List AObj) (L:Nat->Loc) (w:World) (a:Act),
  znI P c=some ac.norm->ac.ok a.tmps.size=true->(ac.noRF=true∨ro=none)->awp P ac Q fr σ->Sim L σ w->FR w L σ fr a.tmps->Marks b0 a.defers L σ w->c.wpIn (Fr ro) rm P (lift b0 (asg ac) a L σ w Q) a w:=by
 intro c;induction c with
 | skip=>
  intro ro b0 ac Q fr σ L w a hc hok hr h S F hd
  simp only[znI,Option.some.injEq]at hc
  cases ac<;>simp only[AC.norm]at hc<;>cases hc
  exact wpIn_skip ⟨L,σ,fr,zdx.refl _ _ _,S,F,hd,zji.refl _ _,h⟩
 | region id ops draw=>
  intro ro b0 ac Q fr σ L w a hc hok hr h S F hd
  cases draw
  ·simp only[znI,Option.bind_eq_bind,Option.bind_eq_some_iff,Option.pure_def,Option.some.injEq]at hc
   obtain⟨l',hl',hc⟩:=hc
   cases ac<;>simp only[AC.norm]at hc<;>cases hc
   rename_i l
   obtain⟨hl,hx⟩:=mapO hl'
   refine wpIn_region ?_
   rw[List.range_eq_range',← hl]
   exact zzo l 0 fr σ L w a (Q .normal) (by omega) (fun k x hk=>by rw[Nat.zero_add];exact hx k x hk) S F hok h fun fr' L' σ' a' w' st S' F' hd' hag hK=>⟨L',σ',fr',st,S',F',(by rw[hd'];exact hd.step st),hag,hK⟩
  ·simp only[znI,Option.bind_eq_bind,Option.bind_eq_some_iff,Option.pure_def,Option.some.injEq]at hc
   obtain⟨l',hl',hc⟩:=hc
   cases ac<;>simp only[AC.norm]at hc<;>cases hc
   rename_i l lin cl
   obtain⟨hl,hx⟩:=mapO hl'
   obtain⟨S1,s1⟩:=S.drew (w.drawn+1)
   refine wpIn_region_any hP ?_
   simp only[awp]at h
   have h2:aany P l (ops.toList.map deps) (fun f s=>∃f0,FEq f0 f/\zyL a.tmps.size f0/\Q .normal f0 s) (ops.toList.map deps).length (List.replicate (ops.toList.map deps).length false) fr σ:=by
    have hkey:∀x∈l,∀d,x.dst=some d->d<a.tmps.size:=fun x hxl d hd=>zAz (List.all_eq_true.1 hok x hxl) d hd;have hFE:FE fun f s=>∃f0,FEq f0 f/\zyL a.tmps.size f0/\Q .normal f0 s:=fun f f' s he hh=>by
     obtain⟨f0,e,hh⟩:=hh;exact⟨f0,fun i=>(e i).trans (he i),hh⟩
    split at h
    ·rename_i hlin;have h1:=ziA (n:=a.tmps.size) hkey lin fr σ F.keys h;exact linOk_any hlin hFE (ziz (fun f s hh=>⟨f,fun _=>rfl,hh⟩) lin fr σ h1)
    ·split at h
     ·rename_i hlin;refine twoOk_any hlin hFE (ziz (fun f s hh=>?_) _ fr σ (ziA (n:=a.tmps.size) hkey _ fr σ F.keys h));obtain⟨hf,hA,hB⟩:=hh;exact⟨ziz (fun f s hh=>⟨f,fun _=>rfl,hh⟩) _ f s (ziA (n:=a.tmps.size) hkey _ f s hf hA),ziz (fun f s hh=>⟨f,fun _=>rfl,hh⟩) _ f s (ziA (n:=a.tmps.size) hkey _ f s hf hB)⟩
     ·split at h
      ·rename_i hlin;exact treeC_any hlin hFE (zpr (n:=a.tmps.size) hkey (fun f s hk hq=>⟨f,fun _=>rfl,hk,hq⟩) _ fr σ F.keys h)
      ·exact h.elim
   simp only[List.length_map,Array.length_toList]at h2
   exact zzp rfl hl hx ops.size _ _ fr σ L _ a _ (by simp) S1 (s1.fr F) hok h2 fun fr' L' σ' a' w' st S' F' hd' hag hK=>by
    obtain⟨f0,e,hk0,hq⟩:=hK;exact⟨L',σ',f0,s1.trans st,S',⟨fun i v hv=>(by rw[e i];exact F'.at_ i v hv),(by rw[hag.1];exact hk0)⟩,(by rw[hd'];exact hd.step (s1.trans st)),hag,hq⟩
 | seq x y ihx ihy=>
  intro ro b0 ac Q fr σ L w a hc hok hr h S F hd
  simp only[znI,Option.bind_eq_bind,Option.bind_eq_some_iff,Option.pure_def,Option.some.injEq]at hc
  obtain⟨x',hx,y',hy,hc⟩:=hc
  cases ac<;>simp only[AC.norm]at hc<;>cases hc
  rename_i ax ay
  simp only[AC.ok,Bool.and_eq_true]at hok
  refine wpIn_seq (wpIn_mono (ihx ro b0 ax _ fr σ L w a hx hok.1 (hr.imp (fun e=>by simp only[AC.noRF,Bool.and_eq_true]at e;exact e.1) (fun h=>h)) h S F hd) fun e a' w' he=>?_)
  cases e with
  | normal=>
   obtain⟨L',σ',fr',st,S',F',hd',hag,hq⟩:=he
   refine wpIn_mono (ihy ro b0 ay Q fr' σ' L' w' a' hy (by rw[hag.1];exact hok.2) (hr.imp (fun e=>by simp only[AC.noRF,Bool.and_eq_true]at e;exact e.2) (fun h=>h)) hq S' F' hd') fun e2 a2 w2 he2=>?_
   cases e2 with
   | normal=>exact zmV.widen st hag he2
   | exit id=>exact zmV.widen st hag he2
   | ret=>exact zmV.widen st hag he2
   | goto l=>exact he2
   | panic ch=>exact he2
   | outgrown=>exact he2.elim
  | exit id=>exact zmV.more he (fun i hi=>List.mem_append_left _ hi)
  | ret=>exact zmV.more he (fun i hi=>List.mem_append_left _ hi)
  | goto l=>exact he
  | panic ch=>exact he
  | outgrown=>exact he.elim
 | cond c x y ihx ihy=>
  intro ro b0 ac Q fr σ L w a hc hok hr h S F hd
  simp only[znI,Option.bind_eq_bind,Option.bind_eq_some_iff,Option.pure_def,Option.some.injEq]at hc
  obtain⟨c',hcc,x',hx,y',hy,hc⟩:=hc
  cases ac<;>simp only[AC.norm]at hc<;>cases hc
  rename_i ax ay
  simp only[AC.ok,Bool.and_eq_true]at hok
  simp only[awp,zh]at h
  have hv:=zU F hcc
  have wide:∀ {B:List Nat},(∀i∈B,i∈asg ax++asg ay)->∀e a' w',lift b0 B a L σ w Q e a' w'→lift b0 (asg (.cond c' ax ay)) a L σ w Q e a' w':=fun{B} hs e a' w' he=>by
   cases e with
   | normal=>exact zmV.more he hs
   | exit id=>exact zmV.more he hs
   | ret=>exact zmV.more he hs
   | goto l=>exact he
   | panic ch=>exact he
   | outgrown=>exact he.elim
  split at h
  ·rename_i t ht
   rw[ht]at hv
   exact wpIn_cond_split hv.bool_inv (fun e=>wpIn_mono (ihx ro b0 ax Q fr σ L w a hx hok.1 (hr.imp (fun e=>by simp only[AC.noRF,Bool.and_eq_true]at e;exact e.1) (fun h=>h)) (h.1 e) S F hd) (wide fun i hi=>List.mem_append_left _ hi)) (fun e=>wpIn_mono (ihy ro b0 ay Q fr σ L w a hy hok.2 (hr.imp (fun e=>by simp only[AC.noRF,Bool.and_eq_true]at e;exact e.2) (fun h=>h)) (h.2 e) S F hd) (wide fun i hi=>List.mem_append_right _ hi))
  ·exact h.elim
 | block id x ihx=>
  intro ro b0 ac Q fr σ L w a hc hok hr h S F hd
  simp only[znI,Option.bind_eq_bind,Option.bind_eq_some_iff,Option.pure_def,Option.some.injEq]at hc
  obtain⟨x',hx,hc⟩:=hc
  cases ac<;>simp only[AC.norm]at hc<;>cases hc
  rename_i ax
  refine wpIn_block (wpIn_mono (ihx ro b0 ax _ fr σ L w a hx hok (hr.imp (fun e=>by simpa only[AC.noRF] using e) (fun h=>h)) h S F hd) fun e a' w' he=>?_)
  cases e with
  | normal=>exact he
  | exit id'=>
   obtain⟨L',σ',fr',st,S',F',hd',hag,hq⟩:=he
   simp only[Exit.inBlock]
   dsimp only at hq
   split
   ·rename_i hid;rw[if_pos hid]at hq;exact⟨L',σ',fr',st,S',F',hd',hag,hq⟩
   ·rename_i hid;rw[if_neg hid]at hq;exact⟨L',σ',fr',st,S',F',hd',hag,hq⟩
  | ret=>exact he
  | goto l=>exact he
  | panic ch=>exact he
  | outgrown=>exact he.elim
 | loop x ihx=>
  intro ro b0 ac Q fr σ L w a hc hok hr h S F hd
  simp only[znI,Option.bind_eq_bind,Option.bind_eq_some_iff,Option.pure_def,Option.some.injEq]at hc
  obtain⟨x',hx,hc⟩:=hc
  cases ac<;>simp only[AC.norm]at hc<;>cases hc
  rename_i lv dd ax
  simp only[AC.ok,Bool.and_eq_true,List.all_eq_true,Bool.or_eq_true,List.contains_iff_mem,Nat.blt_eq]at hok
  obtain⟨⟨⟨⟨hok,hnd⟩,hlv⟩,hdd⟩,hmem⟩:=hok
  obtain⟨I,n₀,⟨vs0,s0,hweak,h0⟩,hround⟩:=h
  obtain⟨L0,st0,S0,hv0⟩:=zmj hweak S (us:=lv.map fun i=>a.tmps.getD i undef) ⟨by simp,fun k c u hc hu=>by
   simp only[List.getElem?_map,Option.map_eq_some_iff]at hc hu;obtain⟨i,hi,rfl⟩:=hc;obtain⟨j,hj,rfl⟩:=hu;rw[hi]at hj;cases hj;exact F.at' i⟩
  obtain⟨fr0,F0,hvs0⟩:=F.retold st0 (zyB hnd) hlv hv0
  rw[← hvs0]at h0
  refine wpIn_loop_ghost (fun n a' w'=>∃L' σ' fr',zdx L σ w L' σ' w'∧Sim L' σ' w'∧FR w' L' σ' fr' a'.tmps/\Marks b0 a'.defers L' σ' w'∧zji (asg ax) a a'∧I n (lv.map (zhn fr')) σ') n₀ ⟨L0,s0,fr0,st0,S0,F0,hd.step st0,zji.refl _ _,h0⟩ ?_
  rintro n a' w' ⟨L',σ',fr',st,S',F',hd',hag,hI⟩
  have Fh:=FR.head (st.fr F) F' hag hmem hlv hdd
  refine wpIn_mono (ihx ro b0 ax _ _ σ' L' w' a' hx (by rw[hag.1];exact hok) (hr.imp (fun e=>by simpa only[AC.noRF] using e) (fun h=>h)) (hround n _ σ' hI) S' Fh hd') fun e a2 w2 he=>?_
  have wide:∀ {Q':zW->List AObj->Prop},zmV b0 (asg ax) a' L' σ' w' Q' a2 w2->zmV b0 (asg ax) a L σ w Q' a2 w2:=fun hh=>(zmV.widen st hag hh).more fun i hi=>by
   rcases List.mem_append.1 hi with h|h<;>exact h
  cases e with
  | normal=>
   obtain⟨L2,σ2,fr2,st2,S2,F2,hd2,hag2,n',hlt,hI2⟩:=he
   have hagA:zji (asg ax) a a2:=(hag.trans hag2).mono fun i hi=>by rcases List.mem_append.1 hi with h|h<;>exact h
   exact⟨n',hlt,L2,σ2,fr2,st.trans st2,S2,F2,hd2,hagA,hI2⟩
  | exit id=>exact wide he
  | ret=>exact wide he
  | goto l=>exact he
  | panic ch=>exact he
  | outgrown=>exact he.elim
 | exit id=>
  intro ro b0 ac Q fr σ L w a hc hok hr h S F hd
  simp only[znI,Option.some.injEq]at hc
  cases ac<;>simp only[AC.norm]at hc<;>cases hc
  exact wpIn_exit ⟨L,σ,fr,zdx.refl _ _ _,S,F,hd,zji.refl _ _,h⟩
 | ret=>
  intro ro b0 ac Q fr σ L w a hc hok hr h S F hd
  simp only[znI,Option.some.injEq]at hc
  cases ac<;>simp only[AC.norm]at hc<;>cases hc
  exact wpIn_ret ⟨L,σ,fr,zdx.refl _ _ _,S,F,hd,zji.refl _ _,h⟩
 | rangeFunc g ps ca cb iha ihb=>
  intro ro b0 ac Q fr σ L w a hc hok hr h S F hd
  simp only[znI,Option.bind_eq_bind,Option.bind_eq_some_iff,Option.pure_def,Option.some.injEq]at hc
  obtain⟨g',hg,a',ha,b',hb,hc⟩:=hc
  cases ac<;>simp only[AC.norm]at hc<;>cases hc
  rename_i aa ab
  simp only[AC.ok,Bool.and_eq_true,List.all_eq_true,Nat.blt_eq]at hok
  obtain⟨⟨⟨⟨ok1,ok2⟩,nr1⟩,nr2⟩,hps⟩:=hok
  obtain rfl:ro=none:=hr.resolve_left (by simp[AC.noRF])
  simp only[awp,rangeFC]at h
  have hv:=zU F hg
  split at h
  ·rename_i f cap hid
   rw[hid]at hv
   obtain⟨fs,cs,hX,r1,r2⟩:=hv.fn_inv
   obtain rfl:fs=[]:=List.eq_nil_of_length_eq_zero r1.1
   refine wpIn_rangeFunc fun fn _=>?_
   obtain⟨rec0,hrec⟩:∃rec0:Loop,rec0={ state:=.ready,pending:=none,fn,tmps:=a.tmps,params:=ps,assign:=ca,body:=cb,defers:=w.heap.size }:=⟨_,rfl⟩
   obtain⟨vs,hvs0⟩:∃vs,vs=(List.range a.tmps.size).map (zhn fr):=⟨_,rfl⟩
   have hvl:vs.length=rec0.tmps.size:=by rw[hvs0,hrec];simp
   have hvs:∀i,(vs[i]?).getD .undef=zhn fr i:=fun i=>by
    rw[hvs0];rcases Nat.lt_or_ge i a.tmps.size with hl|hl
    ·simp[hl]
    ·rw[zsl (fun p hp e=>by have:=F.keys p hp;omega)];simp[hl]
   have hf1:∀b c,zfw { a:=⟨w.heap.size,0,none⟩ } .dead b c->b=w.heap.size:=fun b c h=>h.elim
   have st1:=zes L σ (.deferred (some [])) { a:=⟨w.heap.size,0,none⟩ } .dead hf1
   have S1:=zgf S (.deferred (some [])) { a:=⟨w.heap.size,0,none⟩ } .dead hf1 trivial
   obtain⟨w1,hw1⟩:∃w1,w.alloc (.deferred (some []))=w1:=⟨_,rfl⟩
   obtain⟨L1,hL1⟩:∃L1,zka L σ.length { a:=⟨w.heap.size,0,none⟩ }=L1:=⟨_,rfl⟩
   have hD1:w1.heap[w.heap.size]? = some (.deferred (some [])):=by rw[← hw1];exact World.alloc_heap_new w _
   have hsz1:w1.heap.size=w.heap.size+1:=by rw[← hw1];simp
   rw[hw1,hL1]at st1 S1
   obtain⟨l,hl⟩:∃l,w1.heap.size=l:=⟨_,rfl⟩
   have hf2:∀b c,zfw { a:=⟨w1.heap.size,0,none⟩ } (.lrec l rec0 vs) b c->b=w1.heap.size:=fun b c h=>h
   have st2:=zes L1 (σ++[.dead]) (.loop rec0) { a:=⟨w1.heap.size,0,none⟩ } (.lrec l rec0 vs) hf2 (w:=w1)
   have S2:=zgf S1 (.loop rec0) { a:=⟨w1.heap.size,0,none⟩ } (.lrec l rec0 vs) hf2 ⟨hl,by rw[← hl];exact World.alloc_heap_new w1 _,hvl,fun i c v hc hv=>by
    have:=hvs i;rw[hc]at this;have e:c=zhn fr i:=this;rw[e];exact(st1.trans st2).rv (F.at_ i v (by rw[hrec]at hv;exact hv))⟩
   obtain⟨w2,hw2⟩:∃w2,w1.alloc (.loop rec0)=w2:=⟨_,rfl⟩
   obtain⟨L2,hL2⟩:∃L2,zka L1 (σ++[AObj.dead]).length { a:=⟨w1.heap.size,0,none⟩ }=L2:=⟨_,rfl⟩
   rw[hw2,hL2,List.append_assoc]at st2 S2
   have st12:=st1.trans st2
   simp only[List.cons_append,List.nil_append]at st2 S2 st12
   have hD2:w2.heap[w.heap.size]? = some (.deferred (some [])):=by rw[← hw2];exact(Below.heap_alloc _ _ _ (by omega)).trans hD1
   have hDo:∀o,¬Own L2 (σ++[.dead,.lrec l rec0 vs]) w.heap.size o:=fun o ho=>by
    have h1:=st2.own w.heap.size o (by omega) ho;obtain⟨id,y,hy,hfy⟩:=h1;rcases Nat.lt_or_ge id σ.length with hl'|hl'
    ·rw[List.getElem?_append_left hl']at hy;rw[← hL1,zbG (by omega)]at hfy;have:=hfy.lt (S.obj id y hy);omega
    ·rw[List.getElem?_append_right hl']at hy;cases hk:id-σ.length with
     | zero=>rw[hk]at hy;simp at hy;subst hy;exact hfy
     | succ n=>rw[hk]at hy;simp at hy
   have hM:Marks b0 (zsf w.heap.size::a.defers) L2 (σ++[.dead,.lrec l rec0 vs]) w2:=by
    obtain⟨q0,Ds,q1,q2,q3⟩:=hd.step st12;obtain⟨p0,Ds',p1,p2,p3⟩:=hd;refine⟨q0,w.heap.size::Ds,by rw[q1];rfl,List.nodup_cons.2 ⟨fun hm=>?_,q2⟩,fun D hD=>?_⟩
    ·have e:Ds.map zsf=Ds'.map zsf:=q1.symm.trans p1;have:zsf w.heap.size∈Ds'.map zsf:=by rw[← e];exact List.mem_map.2 ⟨_,hm,rfl⟩
     obtain⟨D,hD,e2⟩:=List.mem_map.1 this;have hDe:D=w.heap.size:=by
      have:=congrArg Deferred.target e2;simpa [zsf] using this
     have:=(Array.getElem?_eq_some_iff.1 (p3 D hD).2.1).1;omega
    ·rcases List.mem_cons.1 hD with rfl|hD
     ·exact⟨p0,hD2,hDo⟩
     ·exact q3 D hD
   obtain⟨ι,J,i0,Nx,Fin,hxs,hJ0,hJl,hiter,hbody,hdone⟩:=h l rec0 vs
   have hy:∀k x k' s,Nx k x k'→J k s->YCall P l x s fun v s'=>v=.d (.bool true)/\J k' s':=by
    intro k x k' s hx hJ Ly wy us Sy hu;have hlr:=hJl k s hJ;obtain⟨k1,k2,k3,k4⟩:=Sy.obj _ _ hlr;have hxl:=hxs k x k' hx;have hrun:=run_yield (P:=P) (args:=us.toArray) k2 (by rw[hrec];show us.toArray.size=ps.size;simp[hu.1,hxl]);refine⟨_,_,_,_,hrun,roundIn_of_wpIn (F:=Fence.wide) trivial ?_⟩;have Fr0:FR wy Ly s fr a.tmps:=⟨fun i v hv=>by
     have hlt:=(Array.getElem?_eq_some_iff.1 hv).1;have e:=hvs i;have hc:vs[i]? = some (vs[i]'(by rw[hvl,hrec];exact hlt)):=List.getElem?_eq_getElem _;rw[hc]at e;have e:vs[i]'(by rw[hvl,hrec];exact hlt)=zhn fr i:=e;rw[← e];exact k4 i _ v hc (by rw[hrec];exact hv),F.keys⟩
    obtain⟨Fr1,hsz⟩:=zyw ps.toList x us fr a.tmps Fr0 hps hu hxl;have etm:(ps.zip us.toArray).foldl (fun(tmps:Array Value) (x:Nat × Value)=>match x with|(t,a)=>tmps.setIfInBounds t a) rec0.tmps=(ps.toList.zip us).foldl (fun t (p:Nat × Value)=>t.setIfInBounds p.1 p.2) a.tmps:=by
     rw[hrec,← Array.foldl_toList];simp[Array.toList_zip]
    rw[show rec0.params=ps by rw[hrec],etm,show rec0.assign=ca by rw[hrec],show rec0.body=cb by rw[hrec]];obtain⟨ts,hts⟩:∃ts,(ps.toList.zip us).foldl (fun t (p:Nat × Value)=>t.setIfInBounds p.1 p.2) a.tmps=ts:=⟨_,rfl⟩;rw[hts]at Fr1 hsz ⊢;change ca.wpIn (Fr (some l)) 0 P _ _ _;refine wpIn_mono (wpIn_any (iha (some l) 0 aa _ (putF fr ps.toList x) s Ly wy { tmps:=ts,defers:=[] } ha (by show aa.ok ts.size=true;rw[hsz];exact ok1) (.inl nr1) (hbody k x k' s hx hJ) Sy Fr1 ⟨Nat.zero_le _,[],rfl,.nil,by simp⟩)) fun e a1 wa he=>?_;cases e with
    | normal=>
     obtain⟨La,σa,fra,sta,Sa,Fa,hda,haga,hlra,hbb⟩:=he
     obtain⟨m1,m2,m3,m4⟩:=Sa.obj _ _ hlra
     refine⟨_,run_beginRound m2 (by rw[hrec]),?_⟩
     have hm2:=(Array.getElem?_eq_some_iff.1 m2).1
     obtain⟨stb,Sb⟩:=znd Sa hlra (x':=.lrec l { rec0 with state:=.busy } vs) rfl (by simp[AObj.kind]) (by simp[AObj.kind]) (.loop { rec0 with state:=.busy }) (fun w' e st=>by
      subst e;refine⟨m1,?_,m3,fun i c v hc hv=>st.rv (m4 i c v hc hv)⟩;show(wa.heap.setIfInBounds _ _)[_]? = _;rw[m1];simp[hm2])
     rw[m1]at stb Sb
     change cb.wpIn (Fr (some l)) 0 P _ _ _
     refine wpIn_mono (wpIn_any (ihb (some l) 0 ab _ fra _ La _ a1 hb (by rw[haga.1];show ab.ok ts.size=true;rw[hsz];exact ok2) (.inl nr2) hbb Sb (stb.fr Fa) (hda.step stb))) fun e2 a2 w3 he2=>?_
     cases e2 with
     | normal=>
      obtain⟨Lc,σc,frc,stc,Sc,Fc,hdc,hagc,hlrc,hJn⟩:=he2
      obtain⟨n1,n2,n3,n4⟩:=Sc.obj _ _ hlrc
      have hn2:=(Array.getElem?_eq_some_iff.1 n2).1
      have hrr:{ ({ rec0 with state:=.busy }:Loop)with state:=.ready,pending:=none }=rec0:=by rw[hrec]
      obtain⟨std,Sd⟩:=znd Sc hlrc (x':=.lrec l rec0 vs) rfl (by simp[AObj.kind]) (by simp[AObj.kind]) (.loop rec0) (fun w' e st=>by
       subst e;refine⟨n1,?_,n3,fun i c v hc hv=>st.rv (n4 i c v hc hv)⟩;show(w3.heap.setIfInBounds _ _)[_]? = _;rw[n1];simp[hn2])
      rw[n1]at std Sd
      refine⟨_,_,run_endRound none n2,?_⟩
      simp only[Option.isNone_none,if_true,hrr]
      exact⟨Lc,_,.d (.bool true),sta.trans (stb.trans (stc.trans std)),Sd,.d _ _ (.bool true),rfl,hJn⟩
     | exit id=>obtain⟨_,_,_,_,_,_,_,_,hq⟩:=he2;exact hq.elim
     | ret=>obtain⟨_,_,_,_,_,_,_,_,hq⟩:=he2;exact hq.elim
     | goto l=>exact he2.elim
     | panic ch=>exact he2.elim
     | outgrown=>exact he2.elim
    | exit id=>obtain⟨_,_,_,_,_,_,_,_,hq⟩:=he;exact hq.elim
    | ret=>obtain⟨_,_,_,_,_,_,_,_,hq⟩:=he;exact hq.elim
    | goto l=>exact he.elim
    | panic ch=>exact he.elim
    | outgrown=>exact he.elim
   have hcall0:=hiter hy
   have hcall:=hcall0.2 L2 w2 (.func (.yield l) #[] #[]::cs) S2 ⟨by simp[r2.1],fun i c v hc hv=>by
    cases i with
    | zero=>simp at hc hv;subst hc hv;exact .fn _ [] [] [] [] rfl rfl (by simp) (by simp)
    | succ i=>exact st12.rv (r2.2 i c v (by simpa using hc) (by simpa using hv))⟩
   refine⟨l,[zsf w.heap.size],w2,{ target:=.fn (.func f) cs.toArray,args:=#[.func (.yield l) #[] #[]] },w2,f,#[.func (.yield l) #[] #[]]++cs.toArray,w2,?_,?_,fun _ _=>trivial,?_,fun h=>by simp[Fence.wide]at h,zyZ.2 ?_⟩
   ·have:=run_enterLoop_outer (P:=P) (w:=w) fn a.tmps ps ca cb
    rw[← hrec,hw1,hw2,← hsz1,hl]at this
    exact this
   ·simp only[resolve,rangeCall,hX]
    simp[Deferred.ofValue]
    rfl
   ·simp[invoke,zlk hcall0.1]
   ·have e1:(#[.func (.yield l) #[] #[]]++cs.toArray:Array Value)=(.func (.yield l) #[] #[]::cs).toArray:=by simp
    rw[e1]
    refine hcall.mono fun e w3 he=>?_
    cases e with
    | returned v=>
     obtain⟨L3,σ3,r3,st3,S3,hr3,ys,hFin,hJ⟩:=he
     have hlr:=hJl _ _ hJ
     obtain⟨k1,k2,k3,k4⟩:=S3.obj _ _ hlr
     have hk2:=(Array.getElem?_eq_some_iff.1 k2).1
     obtain⟨st4,S4⟩:=znd S3 hlr (x':=.lrec l { rec0 with state:=.exhausted } vs) rfl (by simp[AObj.kind]) (by simp[AObj.kind]) (.loop { rec0 with state:=.exhausted }) (fun w' e st=>by
      subst e;refine⟨k1,?_,k3,fun i c v hc hv=>st.rv (k4 i c v hc hv)⟩;show(w3.heap.setIfInBounds _ _)[_]? = _;rw[k1];simp[hk2])
     rw[k1]at st4 S4
     have hrun:(Instr.endLoop l).run P w3=.ok none (w3.putObj l (.loop { rec0 with state:=.exhausted })):=(run_endLoop k2 (by rw[hrec];simp)).trans (by congr 1;rw[hrec])
     refine⟨_,_,hrun,?_⟩
     exact⟨L3,_,fr,st12.trans (st3.trans st4),S4,(st12.trans (st3.trans st4)).fr F,hM.step (st3.trans st4),⟨rfl,fun _ _=>rfl⟩,hdone _ _ hFin hJ⟩
    | panicked ch=>exact he.elim
    | outgrown=>exact he.elim
  ·exact h.elim
 | scope b=>intro ro b0 ac Q fr σ L w a hc;simp[znI]at hc
 | label l=>intro ro b0 ac Q fr σ L w a hc;simp[znI]at hc
 | goto l=>intro ro b0 ac Q fr σ L w a hc;simp[znI]at hc
 | refuse why=>intro ro b0 ac Q fr σ L w a hc;simp[znI]at hc
end
section
variable {P:Program} {w:World} {L:Nat->Loc} {σ:List AObj}
inductive RI where
 | tmp (t:Nat)
 | cell (t:Nat) (agg:Bool) (n:Nat)
def riOk (P:Program) (r:ResultVar):Option RI:=
 match r with
 | .tmp t=>some (.tmp t)
 | .cell t ty=>do pure (.cell t (← zvi P ty) (← sizeOf? P ty))
def zaJ (v:AV) (σ:List AObj) (g:Bool) (n:Nat):Option AV:=
 match v with
 | .box id off=>
  match σ[id]? with
  | some (.box cs)=>if g then(if off+n<=cs.length then some (.agg ((cs.drop off).take n))else none)else cs[off]?
  | _=>none
 | _=>none
def zH (a:Option AV) (l:Option (List AV)):Option (List AV):=match a,l with|some a,some l=>some (a::l)|_,_=>none
def resA (fr:zW) (σ:List AObj):RI->Option AV
 | .tmp t=>some (zhn fr t)
 | .cell t g n=>zaJ (zhn fr t) σ g n
def zuH (fr:zW) (σ:List AObj):List RI->Option (List AV)
 | []=>some []
 | r::rs=>zH (resA fr σ r) (zuH fr σ rs)
def zck:List AV->AV
 | [a]=>a
 | l=>.tup l
theorem load_box (S:Sim L σ w){id off:Nat}{cs:List AV}(hcs:σ[id]? = some (.box cs)){t:TypeId}{g:Bool}{n:Nat}(hg:zvi P t=some g)(hn:sizeOf? P t=some n){r:AV}
  (hr:(if g then(if off+n<=cs.length then some (.agg ((cs.drop off).take n))else none)else cs[off]?)=some r) :
  ∃v,(loadVar t ⟨(L id).a.block,(L id).a.off+off,none⟩).run P w=.ok v w/\RV w L σ r v:=by
 obtain⟨_,_,hcells⟩:=S.obj id _ hcs;cases g
 ·simp only[Bool.false_eq_true,if_false]at hr;obtain⟨_,v,h1,h2⟩:=hcells off r hr;refine⟨v,?_,h2⟩;have:=zom (w:=w) hg hn (b:=(L id).a.block) (off:=(L id).a.off+off) (vs:=[v]) (fun j u hj=>by cases j<;>simp at hj;subst hj;exact h1) (by simp) (by simp);simpa using this
 ·simp only[if_true]at hr;split at hr
  ·rename_i hle;cases hr;obtain⟨vs,hl,hat⟩:∃vs:List Value,vs.length=n/\∀(j:Nat) v,vs[j]? = some v->w.cell? ⟨(L id).a.block,(L id).a.off+off+j,none⟩=some v/\∀c,cs[off+j]? = some c->RV w L σ c v:=by
    refine⟨(List.range n).map fun j=>(w.cell? ⟨(L id).a.block,(L id).a.off+off+j,none⟩).getD undef,by simp,fun j v hj=>?_⟩;have hjn:j<n:=by have:=zo hj;simpa using this
    simp[hjn]at hj;have hc:cs[off+j]? = some (cs[off+j]'(by omega)):=List.getElem?_eq_getElem _;obtain⟨_,u,h1,h2⟩:=hcells (off+j) _ hc;rw[← Nat.add_assoc]at h1;rw[h1]at hj;simp at hj;subst hj;exact⟨h1,fun c hc'=>by rw[hc]at hc';cases hc';exact h2⟩
   refine⟨.agg vs.toArray,?_,.agg _ _ (by simp;omega) fun j c v hc hv=>?_⟩
   ·have:=zom (w:=w) hg hn (b:=(L id).a.block) (off:=(L id).a.off+off) (vs:=vs) (fun j u hj=>(hat j u hj).1) (fun _=>hl) (by simp);simpa using this
   ·rw[List.getElem?_take]at hc;split at hc
    ·rw[List.getElem?_drop]at hc;exact(hat j v hv).2 c hc
    ·cases hc
  ·cases hr
theorem zvR (S:Sim L σ w){fr:zW}{ts:Array Value}(F:FR w L σ fr ts):∀(rs:List ResultVar) (ris:List RI) (out:List AV),rs.mapM (riOk P)=some ris->zuH fr σ ris=some out →
  ∃vs:List Value,(rs.mapM fun r=>(match r with|.tmp t=>pure (ts.getD t undef)|.cell a t=>do loadVar t (← asAddr (ts.getD a undef)):Sem Value)).run P w=.ok vs w/\RVs w L σ out vs
 | [],ris,out,h1,h2=>by
  simp at h1;subst h1;simp[zuH]at h2;subst h2;exact⟨[],by simp,rfl,by simp⟩
 | r::rs,ris,out,h1,h2=>by
  simp only[List.mapM_cons,Option.bind_eq_bind,Option.bind_eq_some_iff,Option.pure_def,Option.some.injEq]at h1;obtain⟨ri,hri,ris',hris,rfl⟩:=h1;simp only[zuH,zH]at h2;split at h2
  ·rename_i x l hx hl;cases h2;obtain⟨vs,hv,hr⟩:=zvR S F rs ris' l hris hl;have hat:∀(t:Nat),RV w L σ (zhn fr t) (ts.getD t undef):=fun t=>F.at' t;have one:∃v,((match r with|.tmp t=>pure (ts.getD t undef)|.cell a t=>do loadVar t (← asAddr (ts.getD a undef)):Sem Value)).run P w=.ok v w/\RV w L σ x v:=by
    cases r with
    | tmp t=>
     simp[riOk]at hri;subst hri
     simp only[resA,Option.some.injEq]at hx
     exact⟨ts.getD t undef,rfl,hx▸hat t⟩
    | cell t ty=>
     simp only[riOk,Option.bind_eq_bind,Option.bind_eq_some_iff,Option.pure_def,Option.some.injEq]at hri
     obtain⟨g,hg,n,hn,rfl⟩:=hri
     simp only[resA,zaJ]at hx
     split at hx
     ·rename_i id off hid
      split at hx
      ·rename_i cs hcs
       have hat':=hat t
       rw[hid]at hat'
       obtain⟨e1,_⟩:=hat'.box_inv
       obtain⟨v,h3,h4⟩:=load_box S hcs hg hn hx
       exact⟨v,by simp[e1,asAddr,h3],h4⟩
      ·cases hx
     ·cases hx
   obtain⟨v,h3,h4⟩:=one;refine⟨v::vs,by simp only[List.mapM_cons,Sem.run_bind,h3,Result.andThen_ok,hv,Sem.run_pure],by simp[hr.1],fun i c u hc hu=>?_⟩;cases i with
   | zero=>simp at hc hu;subst hc hu;exact h4
   | succ i=>simp at hc hu;exact hr.2 i c u hc hu
  ·cases h2
theorem zzX (S:Sim L σ w){fn:Func}{fr:zW}{ts:Array Value}(F:FR w L σ fr ts){ris:List RI}{out:List AV}(h1:fn.results.toList.mapM (riOk P)=some ris)(h2:zuH fr σ ris=some out) :
  ∃v,(results fn ts).run P w=.ok v w/\RV w L σ (zck out) v:=by
 obtain⟨vs,hv,hr⟩:=zvR S F _ _ _ h1 h2;have hm:(fn.results.mapM fun r=>(match r with|.tmp t=>pure (ts.getD t undef)|.cell a t=>do loadVar t (← asAddr (ts.getD a undef)):Sem Value)).run P w=.ok vs.toArray w:=by
  rw[Array.mapM_eq_mapM_toList,Sem.run_map,hv];rfl
 have hlen:=hr.1;have hres:(results fn ts).run P w=.ok (if h:vs.toArray.size=1 then vs.toArray[0]else .tuple vs.toArray) w:=by
  unfold results;rw[Sem.run_bind];have e:(fn.results.mapM fun r=>(match r with|.tmp t=>pure (ts.getD t undef)|.cell a t=>do loadVar t (← asAddr (ts.getD a undef)):Sem Value))=(fn.results.mapM fun
   | .tmp t=>pure (ts.getD t undef)
   | .cell a t=>do loadVar t (← asAddr (ts.getD a undef))):=rfl
  refine(congrArg (fun x=>Result.andThen x _) hm).trans ?_;rfl
 cases out with
 | nil=>
  have:vs=[]:=by simpa using hlen
  subst this
  exact⟨.tuple #[],hres,.tup [] [] rfl (by simp)⟩
 | cons a out=>
  cases out with
  | nil=>
   cases vs with
   | nil=>simp at hlen
   | cons v vs=>
    have:vs=[]:=by simpa using hlen
    subst this
    exact⟨v,hres,hr.2 0 a v rfl rfl⟩
  | cons b out=>
   refine⟨.tuple vs.toArray,?_,.tup _ _ hr.1 hr.2⟩
   rw[hres,dif_neg (by simp at hlen ⊢;omega)]
inductive Low (n:Nat):AV->Prop
 | d (x):Low n (.d x)
 | agg (cs):(∀c∈cs,Low n c)->Low n (.agg cs)
 | tup (cs):(∀c∈cs,Low n c)->Low n (.tup cs)
 | own (t es):t<n->Low n (.own t es)
 | exact(es):Low n (.exact es)
 | nils:Low n .nils
 | bsl (id off len cap sz):id<n->Low n (.bsl id off len cap sz)
 | box (id off):id<n->Low n (.box id off)
 | vp (cs):Low n (.vp cs)
 | map (id):id<n->Low n (.map id)
 | iter (id):id<n->Low n (.iter id)
 | fn (f first cap):(∀c∈first,Low n c)->(∀c∈cap,Low n c)->Low n (.fn f first cap)
 | rsl (t g sz lo hi):t<n->Low n (.rsl t g sz lo hi)
 | rpt (t g off):t<n->Low n (.rpt t g off)
 | undef:Low n .undef
def ztV (n:Nat):AObj->Prop
 | .box cs=>∀c∈cs,Low n c
 | .map es=>∀e∈es,Low n e.1/\Low n e.2
 | .mapr _ _ es=>∀e∈es,Low n e.1/\Low n e.2
 | .mit (some m) _ _=>m<n
 | .lrec _ _ vs=>∀c∈vs,Low n c
 | .row _ _ cs=>∀c∈cs,Low n c
 | _=>True
def zhm (n:Nat) (σ:List AObj):Prop:=∀(id:Nat) x,σ[id]? = some x->ztV n x
theorem RV.low {x:AV}{v:Value}(h:RV w L σ x v):Low σ.length x:=by
 have lt:∀ {id},zql σ id->id<σ.length:=fun⟨_,h,_⟩=>zo h;have all:∀ {cs:List AV} {vs:List Value},vs.length=cs.length->(∀(i:Nat) c v,cs[i]? = some c->vs[i]? = some v->Low σ.length c)->∀c∈cs,Low σ.length c:=fun{cs vs} hl h c hc=>by
  obtain⟨i,hi⟩:=List.mem_iff_getElem?.1 hc;have hlt:=zo hi;exact h i c (vs[i]'(by omega)) hi (List.getElem?_eq_getElem _)
 induction h with
 | d=>exact .d _
 | agg cs vs hl _ ih=>exact .agg _ (all hl ih)
 | tup cs vs hl _ ih=>exact .tup _ (all hl ih)
 | own t es v sz n h=>exact .own _ _ (zo h)
 | exact=>exact .exact _
 | nils=>exact .nils
 | bsl _ _ _ _ _ h=>exact .bsl _ _ _ _ _ (lt h)
 | box _ _ h=>exact .box _ _ (lt h)
 | vp=>exact .vp _
 | map _ h=>exact .map _ (lt h)
 | iter _ h=>exact .iter _ (lt h)
 | fn f first cap fs cs h1 h2 _ _ ih1 ih2=>exact .fn _ _ _ (all h1 ih1) (all h2 ih2)
 | rsl t g sz lo hi a c h=>obtain⟨_,h,_⟩:=h;exact .rsl _ _ _ _ _ (zo h)
 | rpt t g off b o h=>obtain⟨_,h,_⟩:=h;exact .rpt _ _ _ (zo h)
 | undef=>exact .undef
theorem Sim.lows (S:Sim L σ w):zhm σ.length σ:=by
 intro id x hx;cases x with
 | box cs=>
  intro c hc
  obtain⟨j,hj⟩:=List.mem_iff_getElem?.1 hc
  obtain⟨_,v,_,h⟩:=(S.obj id _ hx).2.2 j c hj
  exact h.low
 | map es=>
  intro e he
  obtain⟨j,hj⟩:=List.mem_iff_getElem?.1 he
  obtain⟨ms,clock,_,h2,h3,_⟩:=S.obj id _ hx
  have hlt:=zo hj
  have:=h3 j e (ms[j]'(by omega)) hj (by simp[h2,hlt])
  exact⟨this.1.low,this.2.low⟩
 | mapr c bs es=>
  intro e he
  obtain⟨j,hj⟩:=List.mem_iff_getElem?.1 he
  obtain⟨ms,_,h2,h3,_⟩:=S.obj id _ hx
  have hlt:=zo hj
  have:=h3 j e (ms[j]'(by omega)) hj (by simp[h2,hlt])
  exact⟨this.1.low,this.2.low⟩
 | mit m c seen=>
  cases m with
  | none=>trivial
  | some m=>
   obtain⟨y,hy,_⟩:=(S.obj id _ hx).1
   exact zo hy
 | lrec b r vs=>
  intro c hc
  obtain⟨j,hj⟩:=List.mem_iff_getElem?.1 hc
  obtain⟨_,_,h3,h4⟩:=S.obj id _ hx
  have hlt:=zo hj
  exact(h4 j c (r.tmps[j]'(by omega)) hj (Array.getElem?_eq_getElem _)).low
 | row g sz cs=>
  intro c hc
  obtain⟨j,hj⟩:=List.mem_iff_getElem?.1 hc
  obtain⟨v,_,h⟩:=(S.obj id _ hx).2.2.2.2.2 j c hj
  exact h.low
 | _=>trivial
theorem zhm.set {n:Nat}(h:zhm n σ){id:Nat}{x:AObj}(hx:ztV n x):zhm n (σ.set id x):=by
 intro i y hy;rcases zaA hy with⟨rfl,rfl⟩|⟨_,hy⟩
 ·exact hx
 ·exact h i y hy
theorem ziM {O O':Nat->Nat->Prop}(ho:∀b o,O' b o->O b o){x:D}{v:Value}(h:RD w O x v):RD w O' x v:=h.mono (fun _ _ _ _=>rfl) (fun b o _=>ho b o)
theorem zrV {n:Nat}{b o:Nat}(h:Own L (σ.take n) b o):Own L σ b o:=by
 obtain⟨id,x,hx,hf⟩:=h;rw[List.getElem?_take]at hx;split at hx
 ·exact⟨id,x,hx,hf⟩
 ·cases hx
theorem RV.take {n:Nat}{x:AV}{v:Value}(h:RV w L σ x v)(hl:Low n x):RV w L (σ.take n) x v:=by
 have fx:∀ {id},zql σ id->id<n->zql (σ.take n) id:=fun{id} ⟨y,h,k⟩ hlt=>⟨y,by rw[List.getElem?_take,if_pos hlt];exact h,k⟩;have rd:∀ {x:D} {v:Value},RD w (Own L σ) x v->RD w (Own L (σ.take n)) x v:=fun h=>ziM (fun _ _=>zrV) h;induction h with
 | d _ _ h=>exact .d _ _ (rd h)
 | agg cs vs h1 h2 ih=>cases hl with|agg _ hl=>exact .agg _ _ h1 fun i c v hc hv=>ih i c v hc hv (hl c (List.mem_of_getElem? hc))
 | tup cs vs h1 h2 ih=>cases hl with|tup _ hl=>exact .tup _ _ h1 fun i c v hc hv=>ih i c v hc hv (hl c (List.mem_of_getElem? hc))
 | own t es v sz k h1 h2 h3 h4 h5=>cases hl with|own _ _ hl=>exact .own t es v sz k (by rw[List.getElem?_take,if_pos hl];exact h1) h2 h3 (rd h4) h5
 | exact es a h=>exact .exact _ _ (rd h)
 | nils=>exact .nils
 | bsl id off len cap sz h1 h2=>cases hl with|bsl _ _ _ _ _ hl=>exact .bsl _ _ _ _ _ (fx h1 hl) h2
 | box id off h1=>cases hl with|box _ _ hl=>exact .box _ _ (fx h1 hl)
 | vp cs b off h=>
  refine .vp _ _ _ fun j d hj=>?_
  obtain⟨v,h1,h2,h3⟩:=h j d hj
  exact⟨v,h1,fun h=>h2 (zrV h),rd h3⟩
 | map id h1=>cases hl with|map _ hl=>exact .map _ (fx h1 hl)
 | iter id h1=>cases hl with|iter _ hl=>exact .iter _ (fx h1 hl)
 | fn f first cap fs cs h1 h2 _ _ ih1 ih2=>
  cases hl with|fn _ _ _ hl1 hl2=>exact .fn _ _ _ _ _ h1 h2 (fun i c v hc hv=>ih1 i c v hc hv (hl1 c (List.mem_of_getElem? hc))) (fun i c v hc hv=>ih2 i c v hc hv (hl2 c (List.mem_of_getElem? hc)))
 | rsl t g sz lo hi a c h1 h2 h3 h4 h5 h6 h7=>
  cases hl with|rsl _ _ _ _ _ hl=>
  have e:(σ.take n)[t]? = σ[t]?:=by rw[List.getElem?_take,if_pos hl]
  exact .rsl _ _ _ _ _ _ _ (by obtain⟨y,k1,k2⟩:=h1;exact⟨y,by rw[e];exact k1,k2⟩) (by rw[e];exact h2) h3 h4 h5 h6 (by rw[e];exact h7)
 | rpt t g off b o h1 h2 h3=>
  cases hl with|rpt _ _ _ hl=>
  have e:(σ.take n)[t]? = σ[t]?:=by rw[List.getElem?_take,if_pos hl]
  exact .rpt _ _ _ _ _ (by obtain⟨y,k1,k2⟩:=h1;exact⟨y,by rw[e];exact k1,k2⟩) (by rw[e];exact h2) (by rw[e];exact h3)
 | undef v=>exact .undef v
theorem Sim.take (S:Sim L σ w){n:Nat}(hl:zhm n (σ.take n)):Sim L (σ.take n) w:=by
 have get:∀ {id x},(σ.take n)[id]? = some x→σ[id]? = some x:=fun{id x} h=>by
  rw[List.getElem?_take]at h;split at h
  ·exact h
  ·cases h
 refine⟨fun id x hx=>?_,fun i j x y b o hij hx hy=>S.apart i j x y b o hij (get hx) (get hy)⟩;have ho:=S.obj id x (get hx);cases x with
 | box cs=>
  obtain⟨h1,h2,h3⟩:=ho
  refine⟨h1,h2,fun j c hj=>?_⟩
  obtain⟨h4,v,h5,h6⟩:=h3 j c hj
  exact⟨h4,v,h5,h6.take (hl id _ hx c (List.mem_of_getElem? hj))⟩
 | tok sz k=>exact ho
 | iter s pos=>exact ho
 | map es=>
  obtain⟨ms,clock,h1,h2,h3,h4⟩:=ho
  refine⟨ms,clock,h1,h2,fun i e m he hm=>?_,h4⟩
  have g:=h3 i e m he hm
  have l:=hl id _ hx e (List.mem_of_getElem? he)
  exact⟨g.1.take l.1,g.2.take l.2⟩
 | mapr c bs es=>
  obtain⟨ms,h1,h2,h3,h4⟩:=ho
  refine⟨ms,h1,h2,fun i e m he hm=>?_,h4⟩
  have g:=h3 i e m he hm
  have l:=hl id _ hx e (List.mem_of_getElem? he)
  exact⟨g.1.take l.1,g.2.take l.2⟩
 | mit m c seen=>
  cases m with
  | none=>exact ho
  | some m=>
   have l:m<n:=hl id _ hx
   obtain⟨⟨y,k1,k2⟩,h2⟩:=ho
   exact⟨⟨y,by rw[List.getElem?_take,if_pos l];exact k1,k2⟩,h2⟩
 | lrec b r vs=>
  obtain⟨h1,h2,h3,h4⟩:=ho
  exact⟨h1,h2,h3,fun i c v hc hv=>(h4 i c v hc hv).take (hl id _ hx c (List.mem_of_getElem? hc))⟩
 | row g sz cs=>
  obtain⟨h0,h1,hsc,hs,h2,h3⟩:=ho
  refine⟨h0,h1,hsc,hs,h2,fun j c hj=>?_⟩
  obtain⟨v,h5,h6⟩:=h3 j c hj
  exact⟨v,h5,h6.take (hl id _ hx c (List.mem_of_getElem? hj))⟩
 | dead=>trivial
theorem zdx.take {L':Nat->Loc}{σ':List AObj}{w':World}(s:zdx L σ w L' σ' w'):zdx L σ w L' (σ'.take σ.length) w':=by
 refine⟨s.os,s.tape,s.output,s.size,s.blk,s.cell,s.fz,fun b o hb h=>s.own b o hb (zrV h),by have:=s.len;simp;omega,fun id x hx=>?_⟩;obtain⟨x',h1,h2,h3,h4⟩:=s.turns id x hx;exact⟨x',by rw[List.getElem?_take,if_pos (zo hx)];exact h1,h2,h3,h4⟩
def dmT:AV->AV
 | .tup vs=>.tup (vs.map dm)
 | a=>dm a
theorem zwM {x:AV}{v:Value}(h:RV w L σ x v):RV w L σ (dmT x) v:=by
 cases x with
 | tup cs=>
  obtain⟨vs,rfl,h1,h2⟩:=h.tup_inv
  refine .tup _ _ (by simpa using h1) fun i c v hc hv=>?_
  simp only[List.getElem?_map,Option.map_eq_some_iff]at hc
  obtain⟨c',hc',rfl⟩:=hc
  exact zvs (h2 i c' v hc' hv)
 | _=>exact zvs h
def Ends (n:Nat) (K:KT) (out:Option (List AV)) (σ':List AObj):Prop:=
 match out with
 | some l=>Low n (dmT (zck l))/\zhm n (σ'.take n)/\K (dmT (zck l)) (σ'.take n)
 | none=>False
structure AF where
 nargs:Nat
 ntmps:Nat
 res:List RI
 body:AC
def isF (P:Program) (f:FuncId) (F:AF):Prop:=
 ∃ fn c, P.funcs[f]? = some fn ∧ fn.name ≠ "runtime.NumGoroutine" ∧ fn.body = some c ∧ znI P c = some F.body.norm ∧ F.body.ok F.ntmps = true ∧ F.nargs ≤ F.ntmps ∧ fn.results.toList.mapM (riOk P) = some F.res ∧ fn.ntmps = F.ntmps ∧ P.follows .mixedOrders = true
def isFn (P:Program) (f:FuncId) (F:AF) (n:Nat):Prop:=isF P f F/\F.nargs=n
def zlj:Nat->List AV->zW
 | _,[]=>[]
 | i,a::l=>(i,a)::zlj (i+1) l
def AtEnd (Z:zW->List AObj->Prop):Ex->zW->List AObj->Prop
 | .normal,fr,σ=>Z fr σ
 | .ret,fr,σ=>Z fr σ
 | .exit _,_,_=>False
section
variable {fr:zW}
theorem zoq {w:World}{D:Nat}{x y:Option (List Deferred)}(h:w.heap[D]? = some (.deferred x))(a:Addr):(w.putObj D (.deferred y)).cell? a=w.cell? a/\(w.putObj D (.deferred y)).frozen? a=w.frozen? a:=by
 have hlt:=(Array.getElem?_eq_some_iff.1 h).1;by_cases e:a.block=D
 ·have h1:(w.putObj D (.deferred y)).heap[a.block]? = some (.deferred y):=by rw[e];exact World.putObj_heap_same hlt
  have h2:w.heap[a.block]? = some (.deferred x):=by rw[e];exact h
  constructor
  ·simp only[World.cell?,h1,h2]
  ·simp only[World.frozen?,h1,h2]
 ·have h1:(w.putObj D (.deferred y)).heap[a.block]? = w.heap[a.block]?:=World.putObj_heap_other e;constructor
  ·simp only[World.cell?,h1]
  ·simp only[World.frozen?,h1]
theorem RV.samecells {w w':World}{L:Nat->Loc}{σ:List AObj}(hc:∀b o,w'.cell? ⟨b,o,none⟩=w.cell? ⟨b,o,none⟩){x:AV}{v:Value}(h:RV w L σ x v):RV w' L σ x v:=by
 have rd:∀ {x:D} {v:Value},RD w (Own L σ) x v->RD w' (Own L σ) x v:=fun h=>h.mono (fun b o _ _=>hc b o) (fun _ _ _ h=>h);induction h with
 | d x v h=>exact .d x v (rd h)
 | agg cs vs hl _ ih=>exact .agg cs vs hl ih
 | tup cs vs hl _ ih=>exact .tup cs vs hl ih
 | own t es v sz n h1 h2 h3 h4 h5=>exact .own t es v sz n h1 h2 h3 (rd h4) h5
 | exact es a h=>exact .exact es a (rd h)
 | nils=>exact .nils
 | bsl id off len cap sz h1 h2=>exact .bsl id off len cap sz h1 h2
 | box id off h1=>exact .box id off h1
 | vp cs b off h=>
  refine .vp cs b off fun j d hj=>?_
  obtain⟨v,h1,h2,h3⟩:=h j d hj
  exact⟨v,(hc _ _).trans h1,h2,rd h3⟩
 | map id h1=>exact .map id h1
 | iter id h1=>exact .iter id h1
 | fn f first cap fs cs h1 h2 _ _ ih1 ih2=>exact .fn f first cap fs cs h1 h2 ih1 ih2
 | rsl t g sz lo hi a c h1 h2 h3 h4 h5 h6 h7=>exact .rsl t g sz lo hi a c h1 h2 h3 h4 h5 h6 h7
 | rpt t g off b o h1 h2 h3=>exact .rpt t g off b o h1 h2 h3
 | undef v=>exact .undef v
theorem putD_sim {w:World}{L:Nat->Loc}{σ:List AObj}{D:Nat}{x y:Option (List Deferred)}(S:Sim L σ w)(h:w.heap[D]? = some (.deferred x))(hu:∀o,¬Own L σ D o):Sim L σ (w.putObj D (.deferred y)):=by
 have hc:∀b o,(w.putObj D (.deferred y)).cell? ⟨b,o,none⟩=w.cell? ⟨b,o,none⟩:=fun b o=>(zoq h _).1;have hz:∀b o,(w.putObj D (.deferred y)).frozen? ⟨b,o,none⟩=w.frozen? ⟨b,o,none⟩:=fun b o=>(zoq h _).2;have hsz:(w.putObj D (.deferred y)).heap.size=w.heap.size:=by simp
 refine⟨fun id z hz'=>?_,S.apart⟩;have ho:=S.obj id z hz';have hb:∀b,(∀o,zfw (L id) z b o)->(w.putObj D (.deferred y)).heap[b]? = w.heap[b]?:=fun b hf=>World.putObj_heap_other (fun e=>by subst e;exact hu 0 ⟨id,z,hz',hf 0⟩);cases z with
 | box cs=>
  obtain⟨h0,h00,h1⟩:=ho
  refine⟨h0,by rw[hsz];exact h00,fun j c hj=>?_⟩
  obtain⟨h2,v,h3,h4⟩:=h1 j c hj
  exact⟨(hz _ _).trans h2,v,(hc _ _).trans h3,h4.samecells hc⟩
 | tok sz n=>
  obtain⟨h0,h1,h2,h3⟩:=ho
  refine⟨h0,h1,h2,fun hn o ho ho'=>?_⟩
  obtain⟨⟨v,h4⟩,h5⟩:=h3 hn o ho ho'
  exact⟨⟨v,(hc _ _).trans h4⟩,(hz _ _).trans h5⟩
 | iter t pos=>exact(hb (L id).a.block (fun _=>rfl)).trans ho
 | map es=>
  obtain⟨ms,clock,h1,h2,h3,h4⟩:=ho
  exact⟨ms,clock,(hb (L id).a.block (fun _=>rfl)).trans h1,h2,fun i e m he hm=>⟨(h3 i e m he hm).1.samecells hc,(h3 i e m he hm).2.samecells hc⟩,h4⟩
 | mapr c bs es=>
  obtain⟨ms,h1,h2,h3,h4⟩:=ho
  exact⟨ms,(hb (L id).a.block (fun _=>rfl)).trans h1,h2,fun i e m he hm=>⟨(h3 i e m he hm).1.samecells hc,(h3 i e m he hm).2.samecells hc⟩,h4⟩
 | mit m c seen=>
  cases m with
  | none=>exact(hb (L id).a.block (fun _=>rfl)).trans ho
  | some m=>exact⟨ho.1,(hb (L id).a.block (fun _=>rfl)).trans ho.2⟩
 | lrec b r vs=>
  obtain⟨h1,h2,h3,h4⟩:=ho
  exact⟨h1,by have:=hb (L id).a.block (fun _=>rfl);rw[h1]at this;exact this.trans h2,h3,fun i c v hc' hv=>(h4 i c v hc' hv).samecells hc⟩
 | dead=>trivial
 | row g sz cs=>
  obtain⟨h0,h1,hsc,hs,h2,h3⟩:=ho
  refine⟨h0,h1,hsc,fun h=>by rw[hsz];exact hs h,fun o ho ho'=>?_,fun j c hj=>?_⟩
  ·obtain⟨⟨v,h4⟩,h5⟩:=h2 o ho ho'
   exact⟨⟨v,(hc _ _).trans h4⟩,(hz _ _).trans h5⟩
  ·obtain⟨v,h4,h5⟩:=h3 j c hj
   exact⟨v,(hc _ _).trans h4,h5.samecells hc⟩
theorem putD_step {w0 w:World}{L0 L:Nat->Loc}{σ0 σ:List AObj}{D:Nat}{x y:Option (List Deferred)}(s:zdx L0 σ0 w0 L σ w)(h:w.heap[D]? = some (.deferred x))(hD:w0.heap.size<=D):zdx L0 σ0 w0 L σ (w.putObj D (.deferred y)):=
 ⟨s.os,s.tape,s.output,by rw[World.putObj_size];exact s.size,fun b hb hn=>(World.putObj_heap_other (by omega)).trans (s.blk b hb hn),fun b o hb hn=>((zoq h _).1).trans (s.cell b o hb hn),fun b o hb hn=>((zoq h _).2).trans (s.fz b o hb hn),s.own,s.len,s.turns⟩
theorem zuh {w0:World}{L0 L:Nat->Loc}{σ0 σ:List AObj}{fn:Func}{ts:Array Value}{R:Ending->World->Prop}:∀(Ds:List Nat) (w:World),Ds.Nodup->(∀D∈Ds,w0.heap.size<=D/\w.heap[D]? = some (.deferred (some []))/\∀o,¬Own L σ D o) →
  Sim L σ w->FR w L σ fr ts->zdx L0 σ0 w0 L σ w->(∀w',Sim L σ w'→FR w' L σ fr ts->zdx L0 σ0 w0 L σ w'→∃v,(results fn ts).run P w'=.ok v w'∧R (.returned v) w')->LeavesInM Fence.wide 0 P fn ts R (Ds.map zsf) .returning w
 | [],w,_,_,S,F,s,h=>h w S F s
 | D::Ds,w,hn,hD,S,F,s,h=>by
  obtain⟨k1,k2,k3⟩:=hD D (.head _);obtain⟨n1,n2⟩:=List.nodup_cons.1 hn;refine⟨by simp,.inl ⟨D,_,rfl,run_takeDeferred k2,?_⟩⟩;refine zuh Ds _ n2 (fun E hE=>?_) (putD_sim S k2 k3) ⟨fun i v hv=>(F.at_ i v hv).samecells (fun b o=>(zoq k2 _).1),F.keys⟩ (putD_step s k2 k1) h;obtain⟨e1,e2,e3⟩:=hD E (.tail _ hE);exact⟨e1,(World.putObj_heap_other (fun e:E=D=>n1 (by rw[← e];exact hE))).trans e2,e3⟩
end
theorem zoV {f:FuncId}{F:AF}{na:Nat}(hF:isFn P f F na){as0:List AV}(has:as0.length=na){K:KT}(Z:zW->List AObj->Prop)
  (hZ:∀ {L:Nat->Loc} {w:World} {L':Nat->Loc} {σ':List AObj} {w':World} {fr':zW} {ts:Array Value},Sim L σ w->zdx L σ w L' σ' w'→Sim L' σ' w'→FR w' L' σ' fr' ts->Z fr' σ' →
   ∃L2 σ2 out r,zuH fr' σ' F.res=some out/\zdx L σ w L2 σ2 w'∧Sim L2 σ2 w'∧(∀v,RV w' L' σ' (zck out) v->RV w' L2 σ2 r v)/\K r σ2)
  (h:zhm σ.length σ->(∀a∈as0,Low σ.length a)->awp P F.body (AtEnd Z) (zlj 0 as0) σ):ACall P f as0 σ K:=by
 obtain⟨⟨fn,c,h1,h2,h3,h4,hok,hna,h5,h6,hP⟩,rfl⟩:=hF;refine⟨by simp[zza,h1,h2,h3],fun L w vs S hv=>?_⟩;refine callsIn_wide.1 (callsIn_of_wp_marks (F:=Fence.wide) (n:=0) h1 h3 trivial ?_);have hlow:∀a∈as0,Low σ.length a:=fun a ha=>by
  obtain⟨i,hi⟩:=List.mem_iff_getElem?.1 ha;have hlt:=zo hi;exact(hv.2 i a (vs[i]'(by rw[hv.1];exact hlt)) hi (List.getElem?_eq_getElem _)).low
 have hsz:(vs.toArray++Array.replicate (fn.ntmps-vs.toArray.size) undef).size=F.ntmps:=by simp[hv.1,h6,has];omega
 have key:∀(as0:List AV) (i j:Nat),zhn (zlj i as0) j=if i<=j then(as0[j-i]?).getD .undef else .undef:=by
  intro as0;induction as0 with
  | nil=>intro i j;simp[zlj,zhn]
  | cons a as0 ih=>
   intro i j
   simp only[zlj]
   rw[zmw,ih]
   by_cases h1:j=i
   ·subst h1;simp
   ·by_cases h2:i<=j
    ·rw[if_neg h1,if_pos (by omega),if_pos h2,show j-i=(j-(i+1))+1 by omega];simp
    ·rw[if_neg h1,if_neg (by omega),if_neg h2]
 have keys:∀(as0:List AV) (i:Nat),∀p∈zlj i as0,p.1<i+as0.length:=by
  intro as0;induction as0 with
  | nil=>intro i p hp;cases hp
  | cons a as0 ih=>
   intro i p hp
   simp only[zlj]at hp
   rcases List.mem_cons.1 hp with rfl|hp
   ·simp
   ·have:=ih (i+1) p hp;simp;omega
 have F0:FR w L σ (zlj 0 as0) (vs.toArray++Array.replicate (fn.ntmps-vs.toArray.size) undef):=by
  refine⟨fun i v hv'=>?_,fun p hp=>by rw[hsz];have:=keys as0 0 p hp;omega⟩;rw[key,if_pos (Nat.zero_le _),Nat.sub_zero];rcases Nat.lt_or_ge i as0.length with hl|hl
  ·rw[Array.getElem?_append_left (by simp[hv.1,hl])]at hv';have ha:as0[i]? = some as0[i]:=List.getElem?_eq_getElem _;rw[ha];exact hv.2 i _ v ha (by simpa using hv')
  ·rw[List.getElem?_eq_none hl];exact .undef v
 refine wpIn_mono (awp_sound hP c none w.heap.size F.body _ _ σ L w { tmps:=vs.toArray++Array.replicate (fn.ntmps-vs.toArray.size) undef,defers:=[] } h4 (by show F.body.ok (vs.toArray++Array.replicate (fn.ntmps-vs.toArray.size) undef).size=true;rw[hsz];exact hok) (.inr rfl) (h S.lows hlow) S F0 ⟨Nat.le_refl _,[],rfl,.nil,by simp⟩) fun e a' w' he=>?_;have fin:∀L' σ' fr',zdx L σ w L' σ' w'→Sim L' σ' w'→FR w' L' σ' fr' a'.tmps->Marks w.heap.size a'.defers L' σ' w'→Z fr' σ'→LeavesInM Fence.wide 0 P fn a'.tmps (CR L σ w K) a'.defers .returning w':=fun L' σ' fr' st S' F' hd hz=>by
  obtain⟨_,Ds,hds,hnd,hD⟩:=hd;rw[hds];refine zuh (P:=P) Ds w' hnd hD S' F' st fun w2 S2 F2 st2=>?_;obtain⟨L2,σ2,out,r,g1,g2,g3,g4,g5⟩:=hZ S st2 S2 F2 hz;obtain⟨v,hrun,hr⟩:=zzX S2 F2 h5 g1;exact⟨v,hrun,L2,σ2,r,g2,g3,g4 v hr,g5⟩
 cases e with
 | normal=>obtain⟨L',σ',fr',st,S',F',hd,_,hz⟩:=he;exact fin L' σ' fr' st S' F' hd hz
 | ret=>obtain⟨L',σ',fr',st,S',F',hd,_,hz⟩:=he;exact fin L' σ' fr' st S' F' hd hz
 | exit id=>obtain⟨L',σ',fr',st,S',F',hd,_,hz⟩:=he;exact hz.elim
 | goto l=>exact he.elim
 | panic ch=>exact he.elim
 | outgrown=>exact he.elim
theorem zlE {f:FuncId}{F:AF}{na:Nat}(hF:isFn P f F na){as0:List AV}(has:as0.length=na){K:KT}
  (h:zhm σ.length σ->(∀a∈as0,Low σ.length a)->awp P F.body (AtEnd fun fr' σ'=>Ends σ.length K (zuH fr' σ' F.res) σ') (zlj 0 as0) σ):ACall P f as0 σ K:=
 zoV hF has _ (fun{L w L' σ' w' fr' ts} S st S' F' hz=>by
  unfold Ends at hz;split at hz
  ·rename_i l hl;obtain⟨z1,z2,z3⟩:=hz;exact⟨L',_,l,dmT (zck l),hl,st.take,S'.take z2,fun v hr=>(zwM hr).take z1,z3⟩
  ·exact hz.elim) h
theorem ACall.mono {f:FuncId}{as0:List AV}{K K':AV->List AObj->Prop}(h:ACall P f as0 σ K)(hk:∀r σ',K r σ'→K' r σ'):ACall P f as0 σ K':=
 ⟨h.1,fun L w vs S hv=>(h.2 L w vs S hv).mono fun e w' he=>by
  cases e with
  | returned v=>obtain⟨L',σ',r,s,S',hr,hK⟩:=he;exact⟨L',σ',r,s,S',hr,hk r σ' hK⟩
  | panicked ch=>exact he
  | outgrown=>exact he⟩
end
def zad (z:List AV) (σ:List AObj) (K:KT):Prop:=K (.box σ.length 0) (σ++[.box z])
def zev (op:BinOp) (e:EK) (x y:AV) (σ:List AObj) (K:KT):Prop:=zho op e x y (fun a=>K a σ)
def unC (op:UnOp) (x:AV) (σ:List AObj) (K:KT):Prop:=unA op x (fun a=>K a σ)
def zbz (σ:List AObj) (K:KT):Prop:=K (.map σ.length) (σ++[.map []])
def zaE (vs:List AV) (k:AV->List AV->Prop):Prop:=k (vs.getD 0 .undef) (vs.drop 1)
def zL:List AV->List (Nat × Nat × AV)->Option (List AV)
 | cs,[]=>some cs
 | cs,(off,s,x)::r=>
  match zaO x with
  | some xs=>if xs.length=s/\off+s<=cs.length then zL (zaq cs off xs) r else none
  | none=>none
abbrev LO:=List AObj
def iN (n:Int):AV:=.d (.int .i64 n)
def bT:AV:=.d (.bool true)
def bF:AV:=.d (.bool false)
def eN:AV:=.exact []
def gF (g:AV) (body:KT->Prop) (σ:LO) (K:KT):Prop:=ziQ g false body σ K
def gT (g:AV) (body:KT->Prop) (σ:LO) (K:KT):Prop:=ziQ g true body σ K
def gFm (g x:AV) (σ:LO) (K:KT):Prop:=ziQ g false (fun k=>k x σ) σ K
def gTm (g x:AV) (σ:LO) (K:KT):Prop:=ziQ g true (fun k=>k x σ) σ K
def fl (off:Nat) (x:AV) (σ:LO) (K:KT):Prop:=zc off x σ fun a s=>ze false 1 a s K
def nfl (off:Nat) (x:AV) (σ:LO) (K:KT):Prop:=zbg x σ fun b s=>zc off b s fun a s=>ze false 1 a s K
def gFl (g:AV) (off:Nat) (x:AV) (σ:LO) (K:KT):Prop:=ziQ g false (zc off x σ) σ fun a s=>ziQ g false (ze false 1 a s) s K
def gTl (g:AV) (off:Nat) (x:AV) (σ:LO) (K:KT):Prop:=ziQ g true (zc off x σ) σ fun a s=>ziQ g true (ze false 1 a s) s K
def il (m:Bool) (sz n:Nat) (x i:AV) (σ:LO) (K:KT):Prop:=zN none sz x i σ fun a s=>ze m n a s K
def cp (z:List AV) (n:Nat) (x:AV) (σ:LO) (K:KT):Prop:=zad z σ fun b s=>zl n b x s fun _ s=>K b s
def orC (g x:AV) (σ:LO) (K:KT):Prop:=zxL g bT x σ K
def anC (g x:AV) (σ:LO) (K:KT):Prop:=zxL g x bF σ K
def cA (P:Program) (f:FuncId) (as0:List AV) (σ:LO) (K:KT):Prop:=ACall P f (as0.map dm) σ K
def bP (op:BinOp) (x y:AV) (σ:LO) (K:KT):Prop:=zev op .plain x y σ K
def z1 (Z:Option (List AV)->LO->Prop) (a:AV) (σ:LO):Prop:=Z (zH (some a) (some [])) σ
def z2 (Z:Option (List AV)->LO->Prop) (a b:AV) (σ:LO):Prop:=Z (zH (some a) (zH (some b) (some []))) σ
def m1 (n:Nat) (z:List AV) (x:AV) (σ:LO) (K:KT):Prop:=zp false n 1 (zL (rep z 1) [(0,n,x)]) σ K
theorem zAT (p q:Prop):BB true p q=p:=propext ⟨fun h=>h.1 rfl,fun h=>⟨fun _=>h,fun e=>Bool.noConfusion e⟩⟩
theorem zvB (p q:Prop):BB false p q=q:=propext ⟨fun h=>h.2 rfl,fun h=>⟨fun e=>Bool.noConfusion e,fun _=>h⟩⟩
theorem BB_not (b:Bool)(p q:Prop):BB (!b) p q=BB b q p:=by cases b<;>simp[zAT,zvB]
theorem BB_beqT (b:Bool)(p q:Prop):BB (b==true) p q=BB b p q:=by cases b<;>rfl
theorem BB_beqF (b:Bool)(p q:Prop):BB (b==false) p q=BB b q p:=by cases b<;>simp[zAT,zvB]
@[congr] theorem BB_congr {b b':Bool} {p q p' q':Prop} (hb:b=b') (hp:b'=true->p=p') (hq:b'=false->q=q'):BB b p q=BB b' p' q':=by
 subst hb;cases b
 ·simp only[zvB];exact hq rfl
 ·simp only[zAT];exact hp rfl
theorem zgQ (n:Nat)(x:D):Low n (.d x)=True:=eq_true (.d x)
theorem zxD (n:Nat)(es:List (List D)):Low n (.exact es)=True:=eq_true (.exact es)
@[simp] theorem Low_nils (n:Nat):Low n .nils=True:=eq_true .nils
theorem zfs (n:Nat)(cs:List AV):Low n (.agg cs)=∀c∈cs,Low n c:=propext ⟨fun h=>by cases h with|agg _ h=>exact h,.agg cs⟩
theorem zbw (n:Nat)(cs:List AV):Low n (.tup cs)=∀c∈cs,Low n c:=propext ⟨fun h=>by cases h with|tup _ h=>exact h,.tup cs⟩
inductive Ty where
 | int (k:IntKind)
 | bool
 | str
 | slice (e:List Ty)
def flatFs (P:Program) (g:TypeId->Option (List Ty)):List Field->Nat->Option (List Ty)
 | [],_=>some []
 | f::r,off=>match g f.type with
  | some a=>if f.offset=off/\P.cellsOf f.type=a.length then(flatFs P g r (off+a.length)).map (a++·)else none
  | none=>none
def flat (P:Program):Nat->TypeId->Option (List Ty)
 | 0,_=>none
 | n+1,t=>match P.underlying t with
  | some (.int k)=>some [.int k]
  | some .bool=>some [.bool]
  | some .string=>some [.str]
  | some (.slice e)=>match flat P n e with
   | some ts=>if P.cellsOf e=ts.length/\0<ts.length then some [.slice ts]else none
   | none=>none
  | some (.struct fs)=>match flatFs P (flat P n) fs.toList 0 with
   | some ts=>if P.cellsOf t=ts.length then some ts else none
   | none=>none
  | _=>none
inductive zlg:Ty->D->Prop
 | int (k n):(Lit.int k n).wf=true->zlg (.int k) (.int k n)
 | bool (b):zlg .bool (.bool b)
 | str (s:List UInt8):s.length<=maxLen->zlg .str (.str s)
 | slice (ts:List Ty) (es:List (List D)):es.length<=maxLen->(∀e∈es,e.length=ts.length)->(∀e∈es,∀(i:Nat) t d,ts[i]? = some t->e[i]? = some d->zlg t d)->zlg (.slice ts) (.slice es)
def zcZ (ts:List Ty) (ds:List D):Prop:=ds.length=ts.length/\∀(i:Nat) t d,ts[i]? = some t->ds[i]? = some d->zlg t d
mutual
def zfT:D->Nat
 | .str s=>s.length+1
 | .slice es=>zdp es+1
 | .int _ _=>1
 | .bool _=>1
 | .nilp=>1
 | .nilmap=>1
 | .nilfn=>1
def zcP:List D->Nat
 | []=>0
 | d::r=>zfT d+zcP r
def zdp:List (List D)->Nat
 | []=>0
 | e::r=>zcP e+zdp r
end
theorem zoS (a b:List D):zcP (a++b)=zcP a+zcP b:=by
 induction a with
 | nil=>simp[zcP]
 | cons x a ih=>simp[zcP,ih];omega
structure IsBulk {H:Type} (bw:DataW H->Nat):Prop where
 str:∀b,bw (.lit (.string b))=b.length+1
 slice:∀e s,(e.map bw).sum+1<=bw (.slice e s)
 agg:∀p,(p.map bw).sum<=bw (.agg p)
 one:∀d,1<=bw d
section
variable {H:Type} {enc:TypeId × Value->H} {P:Program} {w:World} {base:Nat} {spare:Nat->Bool} {held:Bool} {bw:DataW H->Nat}
def zpp (w:World) (ds:List D) (cs:List Value):Prop:=ds.length=cs.length/\∀(i:Nat) d v,ds[i]? = some d->cs[i]? = some v->RD w (fun _ _=>False) d v
theorem zpp.append {a b:List D}{c d:List Value}(h1:zpp w a c)(h2:zpp w b d):zpp w (a++b) (c++d):=by
 refine⟨by simp[h1.1,h2.1],fun i x v hx hv=>?_⟩;rcases Nat.lt_or_ge i a.length with hl|hl
 ·rw[List.getElem?_append_left hl]at hx;rw[List.getElem?_append_left (by have:=h1.1;omega)]at hv;exact h1.2 i x v hx hv
 ·rw[List.getElem?_append_right hl]at hx;rw[List.getElem?_append_right (by have:=h1.1;omega),← h1.1]at hv;exact h2.2 _ x v hx hv
theorem zcZ.append {a b:List Ty}{c d:List D}(h1:zcZ a c)(h2:zcZ b d):zcZ (a++b) (c++d):=by
 refine⟨by simp[h1.1,h2.1],fun i x v hx hv=>?_⟩;rcases Nat.lt_or_ge i a.length with hl|hl
 ·rw[List.getElem?_append_left hl]at hx;rw[List.getElem?_append_left (by have:=h1.1;omega)]at hv;exact h1.2 i x v hx hv
 ·rw[List.getElem?_append_right hl]at hx;rw[List.getElem?_append_right (by have:=h1.1;omega),h1.1]at hv;exact h2.2 _ x v hx hv
theorem str_len {s:ByteArray}(h:s.size<=maxLen):s.data.toList.length<=maxLen:=by
 have e2:s.data.toList.length=s.size:=by rw[Array.length_toList];rfl
 rw[e2];exact h
theorem cells_get {a:Addr}{n:Nat}{l:List Value}(h:w.cells? base a n=some l)(hn:0<n):a.spot=none/\l.length=n/\∀(j:Nat) v,l[j]? = some v->w.cell? ⟨a.block,a.off+j,none⟩=some v:=by
 unfold World.cells? at h;split at h
 ·obtain⟨h1,h2⟩:=mapM_some h;simp only[List.length_range]at h1;have h0:=h2 0 0 (l[0]'(by omega)) (List.getElem?_range (by omega)) (List.getElem?_eq_getElem _);have hs:a.spot=none:=by
   simp only[Addr.add,if_pos]at h0;unfold World.cell? at h0;split at h0
   ·split at h0
    ·cases h0
    ·rename_i hx;simpa using hx
   ·cases h0
  refine⟨hs,h1,fun j v hj=>?_⟩;have hjn:=zo hj;have:=h2 j j v (List.getElem?_range (by omega)) hj;have e:a.add j=⟨a.block,a.off+j,none⟩:=by
   obtain⟨b,o,s⟩:=a;simp only at hs;subst hs;exact zcI b o j
  rwa [e]at this
 ·cases h
theorem zvH (hB:IsBulk bw):∀(n:Nat) (t:TypeId) (ts:List Ty) (fuel:Nat) (cs:List Value) (dw:DataW H) (ps:List MemPlace),flat P n t=some ts->DataW.trod enc P w base spare held fuel t cs=some (dw,ps) →
  ∃ds,zcZ ts ds/\zpp w ds cs/\zcP ds<=bw dw
 | 0,_,_,_,_,_,_,h,_=>by simp[flat]at h
 | n+1,t,ts,0,cs,dw,ps,_,h=>by simp[DataW.trod]at h
 | n+1,t,ts,fuel+1,cs,dw,ps,hf,h=>by
  rw[DataW.trod_step]at h;simp only[flat]at hf;have one:∀ {ty:Ty} {d:D} {v:Value},ts=[ty]->cs=[v]->zlg ty d->RD w (fun _ _=>False) d v->zfT d<=bw dw->∃ds,zcZ ts ds/\zpp w ds cs/\zcP ds<=bw dw:=fun{ty d v} h1 h2 h3 h4 h5=>by
   subst h1 h2;refine⟨[d],⟨rfl,fun i t x ht hx=>?_⟩,⟨rfl,fun i x u hx hu=>?_⟩,by simpa [zcP] using h5⟩
   ·cases i with
    | zero=>simp at ht hx;subst ht hx;exact h3
    | succ i=>simp at ht
   ·cases i with
    | zero=>simp at hx hu;subst hx hu;exact h4
    | succ i=>simp at hx
  split at hf
  ·skip;rename_i k hu;cases hf;rcases cs with _|⟨v,_|⟨v2,cs⟩⟩
   ·simp[DataW.trodStep,hu]at h
   ·cases v<;>simp only[DataW.trodStep,hu]at h<;>try(cases h;done)
    rename_i k2 m;split at h
    ·rename_i hk;cases h;obtain⟨rfl,hwf⟩:=hk;exact one rfl rfl (.int _ _ hwf) (.int _ _) (by have:=hB.one (.lit (.int k2 m));simpa [zfT] using this)
    ·cases h
   ·simp[DataW.trodStep,hu]at h
  ·skip;rename_i hu;cases hf;rcases cs with _|⟨v,_|⟨v2,cs⟩⟩
   ·simp[DataW.trodStep,hu]at h
   ·cases v<;>simp only[DataW.trodStep,hu]at h<;>try(cases h;done)
    rename_i b;cases h;exact one rfl rfl (.bool _) (.bool _) (by have:=hB.one (.lit (.bool b));simpa [zfT] using this)
   ·simp[DataW.trodStep,hu]at h
  ·skip;rename_i hu;cases hf;rcases cs with _|⟨v,_|⟨v2,cs⟩⟩
   ·simp[DataW.trodStep,hu]at h
   ·cases v<;>simp only[DataW.trodStep,hu]at h<;>try(cases h;done)
    rename_i s;split at h
    ·rename_i hs;cases h;have e:s=⟨s.data.toList.toArray⟩:=by cases s;rfl
     exact one (d:=.str s.data.toList) rfl rfl (.str _ (str_len hs)) (by rw[show Value.string s=.string ⟨s.data.toList.toArray⟩from by rw[← e]];exact .str _) (by rw[hB.str];simp[zfT])
    ·cases h
   ·simp[DataW.trodStep,hu]at h
  ·skip;rename_i e hu;split at hf
   ·rename_i te hte;simp only[Option.ite_none_right_eq_some,Option.some.injEq]at hf;obtain⟨⟨hce,hpos⟩,rfl⟩:=hf;rcases cs with _|⟨v,_|⟨v2,cs⟩⟩
    ·simp[DataW.trodStep,hu]at h
    ·cases v<;>try(simp only[DataW.trodStep,hu]at h;cases h;done)
     rename_i a len cap;cases a with
     | none=>
      have:len=0/\cap=0/\dw=.nil:=by
       cases len<;>cases cap<;>simp[DataW.trodStep,hu]at h;exact⟨rfl,rfl,h.1.symm⟩
      obtain⟨rfl,rfl,rfl⟩:=this
      exact one (d:=.slice []) rfl rfl (.slice _ [] (by simp) (by simp) (by simp)) (.empty none 0 (fun _=>rfl)) (by have:=hB.one (.nil:DataW H);simpa [zfT,zdp] using this)
     | some a=>
      simp only[DataW.trodStep,hu]at h
      split at h
      ·rename_i hb
       simp only[Option.bind_eq_some_iff]at h
       obtain⟨elems,he,h⟩:=h
       simp only[Option.map_eq_some_iff]at h
       obtain⟨rest,hr,h⟩:=h
       cases h
       obtain⟨m1,m2⟩:=AW.mapM_some he
       rw[List.length_range]at m1
       by_cases hlen:len=0
       ·subst hlen
        have:elems=[]:=by simpa using m1
        subst this
        exact one (d:=.slice []) rfl rfl (.slice _ [] (by simp) (by simp) (by simp)) (.empty (some a) cap (fun e=>by cases e)) (by have:=hB.slice [] (rest.map (·.1));simpa [zfT,zdp] using this)
       have each:∀i,∃e':List D,i<len->zcZ te e'∧(a.add (i*P.cellsOf e)).spot=none/\(∀(j:Nat) d,e'[j]? = some d->∃v,w.cell? ⟨a.block,(a.add (i*P.cellsOf e)).off+j,none⟩=some v/\RD w (fun _ _=>False) d v)/\∃x,elems[i]? = some x/\zcP e'≤bw x.1:=fun i=>by
        by_cases hi:i<len
        ·have hx:elems[i]? = some (elems[i]'(by omega)):=List.getElem?_eq_getElem _;have:=m2 i i _ (List.getElem?_range (by omega)) hx;simp only[Option.bind_eq_some_iff]at this;obtain⟨cl,hc,ht⟩:=this;obtain⟨ds,g1,g2,g3⟩:=zvH hB n e te fuel cl _ _ hte ht;obtain⟨c1,c2,c3⟩:=cells_get hc (by omega);have hblk:(a.add (i*P.cellsOf e)).block=a.block:=by unfold Addr.add;split<;>rfl
         refine⟨ds,fun _=>⟨g1,c1,fun j d hj=>?_,_,hx,g3⟩⟩;have hjl:=zo hj;have hv:cl[j]? = some (cl[j]'(by have:=g2.1;omega)):=List.getElem?_eq_getElem _;exact⟨_,by rw[← hblk];exact c3 j _ hv,g2.2 j d _ hj hv⟩
        ·exact⟨[],fun h=>absurd h hi⟩
       obtain⟨f,hf⟩:=Classical.axiomOfChoice each
       obtain⟨_,hs0,_,_⟩:=hf 0 (by omega)
       have ha:a=⟨a.block,a.off,none⟩:=by
        obtain⟨b,o,s⟩:=a;simp[Addr.add]at hs0;rw[hs0]
       have hoff:∀i,(a.add (i*P.cellsOf e)).off=a.off+i*te.length:=fun i=>by
        rw[ha,zcI,hce]
       let es:=(List.range len).map f
       have hes:∀(i:Nat) e',es[i]? = some e'→i<len/\e'=f i:=fun i e' h=>by
        simp only[es,List.getElem?_map,Option.map_eq_some_iff]at h;obtain⟨k,hk,rfl⟩:=h;have hl:=zo hk;simp at hl;simp[hl]at hk;subst hk;exact⟨hl,rfl⟩
       have hmem:∀e'∈es,∃i,i<len/\e'=f i:=fun e' h=>by
        obtain⟨i,hi⟩:=List.mem_iff_getElem?.1 h;exact⟨i,hes i e' hi⟩
       have hel:es.length=len:=by simp[es]
       have vals:∀i j,∃v,∀d,i<len->(f i)[j]? = some d->w.cell? ⟨a.block,a.off+(i*te.length+j),none⟩=some v/\RD w (fun _ _=>False) d v:=fun i j=>by
        by_cases hi:i<len
        ·cases hd:(f i)[j]? with
         | none=>exact⟨undef,fun d _ h=>by cases h⟩
         | some d=>
          obtain⟨v,h1,h2⟩:=(hf i hi).2.2.1 j d hd
          rw[hoff,Nat.add_assoc]at h1
          exact⟨v,fun d' _ h=>by cases h;exact⟨h1,h2⟩⟩
        ·exact⟨undef,fun d h=>absurd h hi⟩
       have vals2:∃vs:Nat->Value,∀i j d,i<len->(f i)[j]? = some d->w.cell? ⟨a.block,a.off+(i*te.length+j),none⟩=some (vs (i*te.length+j))/\RD w (fun _ _=>False) d (vs (i*te.length+j)):=by
        refine⟨fun k=>(w.cell? ⟨a.block,a.off+k,none⟩).getD undef,fun i j d hi hd=>?_⟩;obtain⟨v,hv⟩:=vals i j;obtain⟨h1,h2⟩:=hv d hi hd;dsimp only;rw[h1];exact⟨rfl,h2⟩
       obtain⟨vs,hvs⟩:=vals2
       have hbulk:∀(l:List Nat) (xs:List (DataW H × List MemPlace)),l.length=xs.length->(∀(i:Nat) k x,l[i]? = some k->xs[i]? = some x->zcP (f k)<=bw x.1)->zdp (l.map f)<=((xs.map (·.1)).map bw).sum:=by
        intro l;induction l with
        | nil=>intro xs _ _;simp[zdp]
        | cons k l ih=>
         intro xs hl h
         cases xs with
         | nil=>simp at hl
         | cons x xs=>
          have h0:=h 0 k x rfl rfl
          have:=ih xs (by simpa using hl) (fun i k' x' hk hx=>h (i+1) k' x' hk hx)
          simp only[List.map_cons,zdp,List.sum_cons]
          omega
       refine one (d:=.slice es) rfl rfl (.slice _ _ (by rw[hel];omega) (fun e' h=>by
         obtain⟨i,hi,rfl⟩:=hmem e' h;exact(hf i hi).1.1) (fun e' h=>by
         obtain⟨i,hi,rfl⟩:=hmem e' h;exact(hf i hi).1.2)) ?_ ?_
       ·rw[ha]
        have:=RD.slice (w:=w) (O:=fun _ _=>False) es a.block a.off cap te.length vs (by intro e;rw[e]at hel;simp at hel;omega) (by rw[hel];exact hb.2.1) (fun e' h=>by
         obtain⟨i,hi,rfl⟩:=hmem e' h;exact(hf i hi).1.1) (fun i e' j d hi hj=>by
         obtain⟨h1,rfl⟩:=hes i e' hi;exact⟨(hvs i j d h1 hj).1,fun h=>h⟩) (fun i e' j d hi hj=>by
         obtain⟨h1,rfl⟩:=hes i e' hi;exact(hvs i j d h1 hj).2)
        rwa [hel]at this
       ·have h1:=hB.slice (elems.map (·.1)) (rest.map (·.1))
        have h2:=hbulk (List.range len) elems (by simp[m1]) (fun i k x hk hx=>by
         have hl:=zo hk;simp at hl;simp[hl]at hk;subst hk;obtain⟨y,hy,hle⟩:=(hf i hl).2.2.2;rw[hx]at hy;cases hy;exact hle)
        simp only[zfT,es]
        omega
      ·cases h
    ·simp[DataW.trodStep,hu]at h
   ·cases hf
  ·skip;rename_i fs hu;split at hf;rotate_left
   ·cases hf
   rename_i ts' hf';simp only[Option.ite_none_right_eq_some,Option.some.injEq]at hf;obtain⟨hcel,rfl⟩:=hf;have hX:∃xs,fs.toList.mapM (fun f=>DataW.trod enc P w base spare held fuel f.type ((cs.drop f.offset).take (P.cellsOf f.type)))=some xs/\dw=.agg (xs.map (·.1))/\cs.length=P.cellsOf t:=by
    have:DataW.trodStep enc P w base spare held (DataW.trod enc P w base spare held fuel) t cs=if cs.length=P.cellsOf t then(fs.toList.mapM fun f=>DataW.trod enc P w base spare held fuel f.type ((cs.drop f.offset).take (P.cellsOf f.type))).map fun xs=>(.agg (xs.map (·.1)),xs.flatMap (·.2))else none:=by
     unfold DataW.trodStep;rw[hu]
    rw[this]at h;split at h
    ·rename_i hl;simp only[Option.map_eq_some_iff]at h;obtain⟨xs,hxs,h⟩:=h;cases h;exact⟨xs,hxs,rfl,hl⟩
    ·cases h
   obtain⟨xs,hxs,rfl,hl⟩:=hX;have key:∀(l:List Field) (off:Nat) (ts:List Ty) (xs:List (DataW H × List MemPlace)),flatFs P (flat P n) l off=some ts->l.mapM (fun f=>DataW.trod enc P w base spare held fuel f.type ((cs.drop f.offset).take (P.cellsOf f.type)))=some xs →
     ∃ds,zcZ ts ds/\zpp w ds ((cs.drop off).take ts.length)/\zcP ds<=((xs.map (·.1)).map bw).sum:=by
    intro l;induction l with
    | nil=>
     intro off ts xs h1 h2
     simp[flatFs]at h1;subst h1
     simp at h2;subst h2
     exact⟨[],⟨rfl,by simp⟩,⟨by simp,by simp⟩,by simp[zcP]⟩
    | cons f l ih=>
     intro off ts xs h1 h2
     simp only[flatFs]at h1
     split at h1
     ·rename_i ta hta
      simp only[Option.ite_none_right_eq_some,Option.map_eq_some_iff]at h1
      obtain⟨⟨ho,hcl⟩,tr,htr,rfl⟩:=h1
      simp only[List.mapM_cons,Option.bind_eq_bind,Option.bind_eq_some_iff,Option.pure_def,Option.some.injEq]at h2
      obtain⟨x,hx,xs',hxs',rfl⟩:=h2
      obtain⟨d1,a1,a2,a3⟩:=zvH hB n f.type ta fuel _ x.1 x.2 hta hx
      obtain⟨d2,b1,b2,b3⟩:=ih (off+ta.length) tr xs' htr hxs'
      refine⟨d1++d2,a1.append b1,?_,by rw[zoS];simp only[List.map_cons,List.sum_cons];omega⟩
      have e:(cs.drop off).take (ta++tr).length=((cs.drop f.offset).take (P.cellsOf f.type))++((cs.drop (off+ta.length)).take tr.length):=by
       rw[ho,hcl,List.length_append,← List.drop_drop,List.take_add]
      rw[e]
      exact a2.append b2
     ·cases h1
   obtain⟨ds,k1,k2,k3⟩:=key fs.toList 0 _ xs hf' hxs;refine⟨ds,k1,?_,by have:=hB.agg (xs.map (·.1));omega⟩;have hlen:=k2.1;have:(cs.drop 0).take ts'.length=cs:=by
    rw[List.drop_zero,List.take_of_length_le (by omega)]
   rwa [this]at k2
  ·cases hf
end
open Go.ChangeShapes Go.WideShapes Go.ChangeAt Go.RowKit
def loc0:Loc:={ a:=⟨0,0,none⟩ }
def argA (g:Bool) (ds:List D):AV:=
 match g with
 | true=>.agg (ds.map .d)
 | false=>.d (ds.headD .nilp)
def ArgsOk:List (Bool × List Ty)->List AV->Nat->Prop
 | [],as0,_=>as0=[]
 | (g,ty)::r,as0,n=>∃ds as' m,zcZ ty ds/\zcP ds+m<=n/\as0=argA g ds::as'∧ArgsOk r as' m
def parOf (P:Program) (t:TypeId):Option (Bool × List Ty):=
 match zvi P t,flat P 24 t with
 | some g,some ts=>if g || ts.length==1 then some (g,ts)else none
 | _,_=>none
section
variable {H:Type} {enc:TypeId × Value->H} {P:Program} {W:World} {sp:Nat->Bool} {held:Bool} {bw:DataW H->Nat}
theorem cells_one_of {t:TypeId}{v:Value}{w:World}{r:Reach}{b:Nat}(hok:Value.okWide P w r b t v)(hg:zvi P t=some false)(ts:List Ty)(hts:flat P 24 t=some ts):v.cells.toList=[v]:=by
 unfold zvi at hg;unfold Value.okWide at hok;cases hu:P.underlying t with
 | none=>simp[hu]at hg
 | some d=>
  rw[hu]at hg hok
  cases d<;>simp at hg<;>simp only at hok<;>cases v<;>first|rfl|(simp[Cell.okWide,Cell.ok,hu]at hok;done)
theorem args_ok (hB:IsBulk bw):∀(ts:List TypeId) (pars:List (Bool × List Ty)) (vs:List Value) (dws:List (DataW H)) (ps:List MemPlace),ts.mapM (parOf P)=some pars →
  DataW.TrodAll enc P W 0 sp held ts vs dws ps->(∀(j:Nat) t v,ts[j]? = some t->vs[j]? = some v->∃b,Value.okWide P W .any b t v) →
  ∃as0,ArgsOk pars as0 (dws.map bw).sum/\RVs W (fun _=>loc0) [] as0 vs
 | [],pars,vs,dws,ps,h1,h2,h3=>by
  simp at h1;subst h1;cases vs<;>cases dws<;>simp[DataW.TrodAll]at h2;exact⟨[],rfl,rfl,by simp⟩
 | t::ts,pars,vs,dws,ps,h1,h2,h3=>by
  simp only[List.mapM_cons,Option.bind_eq_bind,Option.bind_eq_some_iff,Option.pure_def,Option.some.injEq]at h1;obtain⟨⟨g,ty⟩,hp,pars',hps,rfl⟩:=h1;obtain⟨v,vs',d,ds',p,q,rfl,rfl,rfl,h4,h5⟩:=trodAll_cons h2;obtain⟨as0,ih1,ih2⟩:=args_ok hB ts pars' vs' ds' q hps h5 (fun j t v hj hv=>h3 (j+1) t v hj hv);unfold parOf at hp;split at hp
  ·rename_i g' ts' hag hfl;simp only[Option.ite_none_right_eq_some,Option.some.injEq,Prod.mk.injEq]at hp;obtain⟨hc,rfl,rfl⟩:=hp;obtain⟨fuel,h4⟩:=h4;obtain⟨ds,k1,k2,k3⟩:=zvH hB 24 t _ fuel v.cells.toList d p hfl h4;have hown:Own (fun _=>loc0) ([]:List AObj)=fun _ _=>False:=by
    funext b o;simp[Own]
   refine⟨argA g' ds::as0,⟨ds,as0,_,k1,by simp only[List.map_cons,List.sum_cons];exact Nat.add_le_add_right k3 _,rfl,ih1⟩,by have:=ih2.1;simp[this],fun i a u ha hu=>?_⟩;cases i with
   | succ i=>exact ih2.2 i a u ha hu
   | zero=>
    simp at ha hu
    subst ha hu
    obtain⟨b,hok⟩:=h3 0 t v rfl rfl
    cases g' with
    | false=>
     have hcv:=cells_one_of hok hag _ hfl
     rw[hcv]at k2
     obtain⟨x,rfl⟩:∃x,ds=[x]:=by
      have:=k2.1;match ds with
      | [x]=>exact⟨x,rfl⟩
      | []=>simp at this
      | _::_::_=>simp at this
     refine .d _ _ ?_
     rw[hown]
     exact k2.2 0 x v rfl rfl
    | true=>
     have hv:∃cs,v=.agg cs:=by
      unfold zvi at hag;unfold Value.okWide at hok;split at hag
      ·rename_i hu;rw[hu]at hok;obtain⟨cs,h,_⟩:=hok;exact⟨cs,h⟩
      ·rename_i hu;rw[hu]at hok;obtain⟨cs,h,_⟩:=hok;exact⟨cs,h⟩
      ·cases hag
      ·cases hag
     obtain⟨cs,rfl⟩:=hv
     have e:cs=cs.toList.toArray:=by simp
     have k2':zpp W ds cs.toList:=k2
     show RV W _ [] (.agg (ds.map .d)) (.agg cs)
     rw[e]
     refine .agg _ _ (by have:=k2'.1;simp at this ⊢;omega) fun i c u hc hu=>?_
     simp only[List.getElem?_map,Option.map_eq_some_iff]at hc
     obtain⟨x,hx,rfl⟩:=hc
     refine .d _ _ ?_
     rw[hown]
     exact k2'.2 i x u hx hu
  ·cases hp
theorem law_end {f:Func}{s:ChangeSpec}{w':World}{args:Array Value}{v:Value}{ds gs:List (DataW H)}{before:List MemPlace}
  (hW:DataW.Whole enc P f.params.toList s.vars false W args.toList ds gs before) (hvars:s.vars=[]) (hfn:s.fn H (ds++gs)={ results:=[.lit (.bool true)],args:=ds })
  (hlaid:laidOutB P=true) (hmaps:mapsRowed P=true) (hfull:∀t e,t<P.types.size->P.underlying t=some (.slice e)→0<P.cellsOf e) (hpar:∀t∈f.params.toList,t<P.types.size)
  {tb:TypeId} (hres:f.resultTypes=#[tb]) (htb:P.underlying tb=some .bool)
  (hb:Below W.heap.size W w') (hv:v=.bool true):s.post enc P f false true false false W args v w':=by
 subst hv;have hW0:=hW;have hlt:∀p∈before,p.block<W.heap.size:=fun p hp=>hW0.lt p hp;obtain⟨p,q,hA,hV,hpq,hz,hn⟩:=hW;rw[hvars]at hV;have hgq:gs=[]/\q=[]:=by
  cases gs with
  | nil=>exact⟨rfl,by simpa [DataW.TrodVars] using hV⟩
  | cons=>simp[DataW.TrodVars]at hV
 obtain⟨rfl,rfl⟩:=hgq;rw[List.append_nil]at hpq;have carry:∀ {ts:List TypeId} {vs:List Value} {ds:List (DataW H)} {ps:List MemPlace} {sp:Nat->Bool},DataW.TrodAll enc P W 0 sp true ts vs ds ps->(∀x∈ps,W.sameAt w' x)->DataW.TrodAll enc P w' 0 sp true ts vs ds ps:=by
  intro ts;induction ts with
  | nil=>intro vs ds ps sp h _;cases vs<;>cases ds<;>simp[DataW.TrodAll]at h ⊢;exact h
  | cons t ts ih=>
   intro vs ds ps sp h hs
   obtain⟨v,vs',d,ds',p,q,rfl,rfl,rfl,⟨n,h1⟩,h2⟩:=trodAll_cons h
   exact⟨p,q,⟨n,DataW.trod_carry n _ _ _ h1 (fun x hx=>hs x (List.mem_append_left _ hx))⟩,ih h2 (fun x hx=>hs x (List.mem_append_right _ hx)),rfl⟩
 have hargs:∀sp:Nat->Bool,(∀x∈p,sp x.block=true)->DataW.TrodAll enc P w' 0 sp true f.params.toList args.toList ds p:=fun sp hsp=>
  carry (DataW.TrodAll.respare (kids_rows hlaid hmaps) hfull hpar hA hsp) (fun x hx=>hb.same (hlt x (by rw[hpq];exact hx)))
 have hbool:∀(b:Nat) (sp:Nat->Bool) (hd:Bool),DataW.Trod enc P w' b sp hd tb (.bool true) (.lit (.bool true)) []:=fun b sp hd=>⟨1,by simp[DataW.trod,htb,Value.cells]⟩;have hrl:(Value.bool true).resultList f.resultTypes.size=[.bool true]:=by rw[hres];rfl
 have hresT:∀(b:Nat) (sp:Nat->Bool) (hd:Bool),DataW.TrodAll enc P w' b sp hd f.resultTypes.toList ((Value.bool true).resultList f.resultTypes.size) [.lit (.bool true)] []:=fun b sp hd=>by
  rw[hrl,hres];exact⟨[],[],hbool b sp hd,rfl,rfl⟩
 refine⟨ds,[],before,[],p,[],hW0,?_,?_,?_,hb.frame _,fun h=>by cases h⟩
 ·rw[hfn];exact hresT _ _ _
 ·rw[hfn];exact hargs _ (fun x hx=>by have:=hlt x (by rw[hpq];exact hx);simpa using this)
 ·rw[hvars,hfn];simp[DataW.TrodVars]
theorem law_calls (hB:IsBulk bw){f:FuncId}{fn:Func}{s:ChangeSpec}{args:Array Value}{ds gs:List (DataW H)}{before:List MemPlace}{base:Nat}{pars:List (Bool × List Ty)}
  (hval:∀(j:Nat) t v,fn.params[j]? = some t->args[j]? = some v->Value.okWide P W .any base t v)
  (hW:DataW.Whole enc P fn.params.toList s.vars false W args.toList ds gs before) (hpars:fn.params.toList.mapM (parOf P)=some pars) (hvars:s.vars=[]) (hfn:s.fn H (ds++gs)={ results:=[.lit (.bool true)],args:=ds })
  (hlaid:laidOutB P=true) (hmaps:mapsRowed P=true) (hfull:((List.range P.types.size).all fun t=>match P.underlying t with|some (.slice e)=>decide (0<P.cellsOf e)|_=>true)=true) (hpar:(fn.params.toList.all fun t=>decide (t<P.types.size))=true)
  {tb:TypeId} (hres:fn.resultTypes=#[tb]) (htb:P.underlying tb=some .bool)
  (h:∀as0,ArgsOk pars as0 (ds.map bw).sum->ACall P f as0 [] fun r _=>r=.d (.bool true)) :
  Calls P f args W fun e W'=>∃v,e=.returned v/\s.post enc P fn false true false false W args v W':=by
 have hW0:=hW;obtain⟨p,q,hA,hV,hpq,hz,hn⟩:=hW;obtain⟨as0,h1,h2⟩:=args_ok hB fn.params.toList pars args.toList ds p hpars hA (fun j t v hj hv=>⟨base,hval j t v (by simpa using hj) (by simpa using hv)⟩);have hS:Sim (fun _=>loc0) [] W:=⟨by simp,by simp⟩;have:=(h as0 h1).2 (fun _=>loc0) W args.toList hS h2;rw[Array.toArray_toList]at this;refine this.mono fun e W' he=>?_;cases e with
 | panicked c=>exact he.elim
 | outgrown=>exact he.elim
 | returned v=>
  obtain⟨L',σ',r,st,S',hr,rfl⟩:=he
  have hvb:=hr.bool_inv
  have hb:Below W.heap.size W W':=⟨st.os,st.tape,st.output,st.size,fun k hk=>st.blk k hk (fun o=>by simp[Own])⟩
  exact⟨v,rfl,law_end hW0 hvars hfn hlaid hmaps (slices_full_of P hfull) (fun t ht=>by simpa using List.all_eq_true.1 hpar t ht) hres htb hb hvb⟩
end
end Go.AW
