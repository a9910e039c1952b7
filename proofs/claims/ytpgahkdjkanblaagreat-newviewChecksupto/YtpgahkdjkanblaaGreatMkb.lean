/- Contract: a new view with a fault. -/
import Derived.Test.YtpgahkdjkanblaaGreatMk9
set_option linter.all false
set_option maxRecDepth 100000
namespace Go.Proofs.YtpgahkdjkanblaaGreat
open Go.AW
def bendI (w:Int) (n:Nat):Nat:=(w.tmod n).toNat
def ziU (how which:Int) (m:zcS):zcS:=
 if (2<=how/\how<=5/\m.entries = [])∨(how=6/\m.changes = []) then m
 else if how=1 then { m with view:=IntKind.i64.wrap (m.view+1) }
 else if how=2 then { m with entries:=m.entries.modify (bendI which m.entries.length) fun x=>{ x with batch := [] } }
 else if how=3 then { m with entries:=m.entries.modify (bendI which m.entries.length) fun x=>{ x with seq:=IntKind.i64.wrap (x.seq+1) } }
 else if how=4 then { m with entries:=m.entries.take (m.entries.length-1) }
 else if how=5 then { m with entries:=m.entries.modify (bendI which m.entries.length) fun x=>{ x with dig:=IntKind.i64.wrap (x.dig+1) } }
 else if how=6 then { m with changes:=m.changes.take (m.changes.length-1) }
 else if how=7 then { m with src:=which.tmod 4 }
 else if how=8 then { m with sdig:=IntKind.i64.wrap (m.sdig+1) }
 else m
theorem frz_pre {σ:List zd} {n₀ m t g sz hi:Nat} {es:List (List D)} {cs:List AV} (ht : σ[t]? = some (.row g sz cs)) (hc:cs.map (frz σ n₀ (m+1))=(zac es).map (frz σ n₀ (m+1))) (hn:n₀<=t) (h:∀ e∈es,e.length=sz) (hh:hi<=es.length) :
  frz σ n₀ (m+2) (.rsl t g sz 0 hi)=some (.slice (es.take hi)):=by
 have hf:∀ ds:List D,zyn ((ds.map AV.d).map (frz σ n₀ (m+1)))=some ds:=by
  intro ds
  induction ds with
  | nil=>rfl
  | cons d ds ih=>
   have:frz σ n₀ (m+1) (.d d)=some d:=rfl
   simp only [List.map_cons,this,zyn,ih]
 have hck:∀ (es:List (List D)),(∀ e∈es,e.length=sz)->zaz sz es.length es.flatten=es:=by
  intro es
  induction es with
  | nil=>intro _;rfl
  | cons e es ih=>
   intro h
   have he:=h e List.mem_cons_self
   simp only [List.length_cons,zaz,List.flatten_cons]
   rw [List.take_left' he,List.drop_left' he,ih fun x hx=>h x (List.mem_cons_of_mem _ hx)]
 have h2:∀ e∈es.take hi,e.length=sz:=fun e he=>h e (List.mem_of_mem_take he)
 have hl:(es.take hi).length=hi:=by rw [List.length_take];omega
 simp only [frz,ht,hn,true_and,and_self,if_true,Nat.zero_mul,List.drop_zero,Nat.sub_zero]
 rw [List.map_take,hc, ← List.map_take,zyY h,hf]
 simp only
 have hh2:=hck _ h2
 rw [hl] at hh2
 rw [hh2]
theorem zmn {σ:List zd} {A B C:zd} {m:zcS} {cs:List zJ} {es:List zaI} {st rc:List UInt8} {hd:List THdr} {ph:List Int} {c2:List AV} {g1 g2 g3 g4 g5 g6 n1 n2:Nat} {K:KT} (hl:zgl σ.length σ) (hK:K (zeR m) σ)
  (h1:cs.take n1=m.changes) (l1:n1<=cs.length) (h2:es.take n2=m.entries) (l2:n2<=es.length) (hc:∀ s n,c2.map (frz s n 1)=(zac (zu es)).map (frz s n 1)) (e3:st=m.state) (e4:rc=m.proof.rec_) (e5:hd=m.proof.headers) (e6:ph=m.proof.path) :
  EndsF 2 σ.length K (some [.agg (msgL6 m (.rsl (σ.length+3) g1 8 0 n1) (.rsl (σ.length+4) g2 5 0 n2) (.rsl (σ.length+5) g3 1 0 st.length) (.rsl (σ.length+6) g4 1 0 rc.length) (.rsl (σ.length+7) g5 5 0 hd.length) (.rsl (σ.length+8) g6 1 0 ph.length))])
   (σ++[A,B,C,.row g1 8 (zac (zR cs)),.row g2 5 c2,.row g3 1 (zac (bcs st)),.row g4 1 (zac (bcs rc)),.row g5 5 (zac (znX hd)),.row g6 1 (zac (ziN ph))]):=by
 subst e3 e4 e5 e6
 obtain ⟨T,hT⟩:∃ T,[A,B,C,.row g1 8 (zac (zR cs)),.row g2 5 c2,.row g3 1 (zac (bcs m.state)),.row g4 1 (zac (bcs m.proof.rec_)),.row g5 5 (zac (znX m.proof.headers)),.row g6 1 (zac (ziN m.proof.path))]=T:=⟨_,rfl⟩
 rw [hT]
 have f1:frz (σ++T) σ.length 2 (.rsl (σ.length+3) g1 8 0 n1)=some (.slice (zR m.changes)):=by
  rw [frz_pre (m := 0) (es:=zR cs) (by rw [← hT,zB];rfl) rfl (by omega) (changes_eight _) (by rw [List.length_map];exact l1), ← List.map_take,h1]
 have f2:frz (σ++T) σ.length 2 (.rsl (σ.length+4) g2 5 0 n2)=some (.slice (zu m.entries)):=by
  rw [frz_pre (m := 0) (es:=zu es) (by rw [← hT,zB];rfl) (hc _ _) (by omega) (entries_five _) (by rw [List.length_map];exact l2), ← List.map_take,h2]
 have f3:frz (σ++T) σ.length 2 (.rsl (σ.length+5) g3 1 0 m.state.length)=some (.slice (bcs m.state)):=by
  rw [← zX m.state];exact zky (m := 0) (by rw [← hT,zB];rfl) (by omega) zez
 have f4:frz (σ++T) σ.length 2 (.rsl (σ.length+6) g4 1 0 m.proof.rec_.length)=some (.slice (bcs m.proof.rec_)):=by
  rw [← zX m.proof.rec_];exact zky (m := 0) (by rw [← hT,zB];rfl) (by omega) zez
 have f5:frz (σ++T) σ.length 2 (.rsl (σ.length+7) g5 5 0 m.proof.headers.length)=some (.slice (znX m.proof.headers)):=by
  rw [show m.proof.headers.length=(znX m.proof.headers).length from (List.length_map ..).symm];exact zky (m := 0) (by rw [← hT,zB];rfl) (by omega) (zec (f:=hdrD) (fun _=>rfl) _)
 have f6:frz (σ++T) σ.length 2 (.rsl (σ.length+8) g6 1 0 m.proof.path.length)=some (.slice (ziN m.proof.path)):=by
  rw [show m.proof.path.length=(ziN m.proof.path).length from (List.length_map ..).symm];exact zky (m := 0) (by rw [← hT,zB];rfl) (by omega) (zec (f:=fun x => [D.int .i64 x]) (fun _=>rfl) _)
 refine zmc (r:=zeR m) ?_ hl hK
 simp only [zcq,frzT,zxW,List.map_cons,List.map_nil,frz_d,f1,f2,f3,f4,f5,f6,zyn]
theorem zAS {es:List zaI} {i j:Nat} {y:zaI} {x:AV} {d:D} {g:zaI->zaI} (hy:es[i]? = some y) (hj:j<5) (hx:∀ s n,frz s n 1 x=frz s n 1 (.d d)) (hg:zbh (g y)=(zbh y).set j d) (s:List zd) (n:Nat) :
  ((zac (zu es)).take (i*5+j)++x::(zac (zu es)).drop (i*5+j+1)).map (frz s n 1)=(zac (zu (es.modify i g))).map (frz s n 1):=by
 have hgy:=zF (f:=zbh) hy
 have hi:=(List.getElem?_eq_some_iff.1 hy).1
 have e1:zu (es.modify i g)=(zu es).set i ((zbh y).set j d):=by
  apply List.ext_getElem?
  intro k
  rw [List.getElem?_map,List.getElem?_modify,List.getElem?_set,List.length_map]
  by_cases hk:i=k
  ·subst hk
   rw [if_pos rfl,if_pos hi,hy, ← hg];simp
  ·rw [if_neg hk];simp [hk]
 have hl:(zac (zu es)).length=es.length*5:=by rw [zeM (entries_five _),List.length_map]
 have hm:(i+1)*5<=es.length*5:=Nat.mul_le_mul_right _ hi
 rw [e1, ← zwt (entries_five _) hgy hj,List.set_eq_take_append_cons_drop,if_pos (by omega)]
 simp only [List.map_append,List.map_cons,hx]
theorem c_bent {σ:List zd} {how which:Int} {m:zcS} (h0:0<=how/\how<=255) (w0:0<=which/\which<=255) (hm:zbn m) {K:KT} (hK:K (zeR (ziU how which m)) σ) :
  zj Tryz.prog zkq [.agg [.d (.int .u8 how),.d (.int .u8 which)],zeR m] σ K:=by
 refine zsF znq.is rfl 2 fun hl _=>znq.goes ?_
 have hal:=hm.changes
 have hbl:=hm.entries
 simp only [znx,iN,bT,bF,eN,zl0]
 refine zQ ?_
 refine c_kCloneM (m:=m) hm fun g1 g2 g3 g4 g5 g6 => ?_
 have plain:∀ (A B C:zd) (m':zcS),m'.changes=m.changes->m'.entries=m.entries->m'.state=m.state->m'.proof=m.proof->ziU how which m=m' →
   EndsF 2 σ.length K (some [.agg (msgL6 m' (.rsl (σ.length+3) g1 8 0 m.changes.length) (.rsl (σ.length+4) g2 5 0 m.entries.length) (.rsl (σ.length+5) g3 1 0 m.state.length) (.rsl (σ.length+6) g4 1 0 m.proof.rec_.length) (.rsl (σ.length+7) g5 5 0 m.proof.headers.length) (.rsl (σ.length+8) g6 1 0 m.proof.path.length))]) (σ++A::B::C::msgR m g1 g2 g3 g4 g5 g6):=fun A B C m' h1 h2 h3 h4 h5=>
  zmn hl (h5▸hK) (by rw [h1];exact List.take_length) (Nat.le_refl _) (by rw [h2];exact List.take_length) (Nat.le_refl _) (fun _ _=>rfl) h3.symm (by rw [h4]) (by rw [h4]) (by rw [h4])
 have hwW:IntKind.i64.wrap which=which:=zab (by omega) (by omega)
 have hidx:0<m.entries.length->∃ i y,bendI which m.entries.length=i/\i<m.entries.length/\which.tmod (m.entries.length:Int)=(i:Int)/\m.entries[i]? = some y:=fun h=>by
  have h1:=Int.tmod_lt_of_pos which (b:=(m.entries.length:Int)) (by omega)
  have h2:=Int.tmod_nonneg (m.entries.length:Int) w0.1
  have h3:bendI which m.entries.length<m.entries.length:=by unfold bendI;omega
  exact ⟨_,_,rfl,h3,by unfold bendI;omega,List.getElem?_eq_getElem h3⟩
 have hRl:(zac (zu m.entries)).length=m.entries.length*5:=by rw [zeM (entries_five _),List.length_map]
 by_cases k1:how=1
 ·subst k1
  have q1:decide ((1:Int)≥2)=false:=rfl
  have q2:decide ((1:Int)<=5)=true:=rfl
  have q3:((1:Int)==6)=false:=rfl
  have r1:((1:Int)==1)=true:=rfl
  have r2:((1:Int)==2)=false:=rfl
  have r3:((1:Int)==3)=false:=rfl
  have r4:((1:Int)==4)=false:=rfl
  have r5:((1:Int)==5)=false:=rfl
  have r6:((1:Int)==6)=false:=rfl
  have r7:((1:Int)==7)=false:=rfl
  have r8:((1:Int)==8)=false:=rfl
  refine zfC (zi q1 (zi q2 (zi q3 (zi r1 (zi r2 (zi r3 (zi r4 (zi r5 (zi r6 (zi r7 r8)))))))))) ?_
  exact plain _ _ _ { m with view:=IntKind.i64.wrap (m.view+1) } rfl rfl rfl rfl (by simp [ziU])
 by_cases k7:how=7
 ·subst k7
  have q1:decide ((7:Int)≥2)=true:=rfl
  have q2:decide ((7:Int)<=5)=false:=rfl
  have q3:((7:Int)==6)=false:=rfl
  have r1:((7:Int)==1)=false:=rfl
  have r2:((7:Int)==2)=false:=rfl
  have r3:((7:Int)==3)=false:=rfl
  have r4:((7:Int)==4)=false:=rfl
  have r5:((7:Int)==5)=false:=rfl
  have r6:((7:Int)==6)=false:=rfl
  have r7:((7:Int)==7)=true:=rfl
  have r8:((7:Int)==8)=false:=rfl
  have h4w:IntKind.i64.wrap (which.tmod 4)=which.tmod 4:=by
   have h1:=Int.tmod_lt_of_pos which (b := 4) (by omega)
   have h2:=Int.tmod_nonneg 4 w0.1
   exact zab (by omega) (by omega)
  refine zfC (zi q1 (zi q2 (zi q3 (zi r1 (zi r2 (zi r3 (zi r4 (zi r5 (zi r6 (zi r7 (zi r8 (zi hwW (zi (show ((4:Int)==0)=false from rfl) h4w))))))))))))) ?_
  exact plain _ _ _ { m with src:=which.tmod 4 } rfl rfl rfl rfl (by simp [ziU])
 by_cases k8:how=8
 ·subst k8
  have q1:decide ((8:Int)≥2)=true:=rfl
  have q2:decide ((8:Int)<=5)=false:=rfl
  have q3:((8:Int)==6)=false:=rfl
  have r1:((8:Int)==1)=false:=rfl
  have r2:((8:Int)==2)=false:=rfl
  have r3:((8:Int)==3)=false:=rfl
  have r4:((8:Int)==4)=false:=rfl
  have r5:((8:Int)==5)=false:=rfl
  have r6:((8:Int)==6)=false:=rfl
  have r7:((8:Int)==7)=false:=rfl
  have r8:((8:Int)==8)=true:=rfl
  refine zfC (zi q1 (zi q2 (zi q3 (zi r1 (zi r2 (zi r3 (zi r4 (zi r5 (zi r6 (zi r7 r8)))))))))) ?_
  exact plain _ _ _ { m with sdig:=IntKind.i64.wrap (m.sdig+1) } rfl rfl rfl rfl (by simp [ziU])
 by_cases k2:how=2
 ·subst k2
  have q1:decide ((2:Int)≥2)=true:=rfl
  have q2:decide ((2:Int)<=5)=true:=rfl
  have q3:((2:Int)==6)=false:=rfl
  have r1:((2:Int)==1)=false:=rfl
  have r2:((2:Int)==2)=true:=rfl
  have r3:((2:Int)==3)=false:=rfl
  have r4:((2:Int)==4)=false:=rfl
  have r5:((2:Int)==5)=false:=rfl
  have r6:((2:Int)==6)=false:=rfl
  have r7:((2:Int)==7)=false:=rfl
  have r8:((2:Int)==8)=false:=rfl
  cases hz:((m.entries.length:Int)==0)
  rotate_left
  ·have hz':m.entries = []:=List.eq_nil_of_length_eq_zero (by simp at hz;rw [hz];rfl)
   refine zmD (zi q1 (zi q2 (zi q3 (zi r1 (zi r2 (zi r3 (zi r4 (zi r5 (zi r6 (zi r7 (zi r8 hz))))))))))) ?_
   exact plain _ _ _ m rfl rfl rfl rfl (by simp [ziU,hz'])
  ·have hp:0<m.entries.length:=by simp at hz;exact List.length_pos_iff.2 hz
   obtain ⟨i,y,hi,hil,him,hiy⟩:=hidx hp
   have hic:(zac (zu m.entries))[i*5+2]?=((zbh y)[2]?).map .d:=zjY (entries_five _) (zF (f:=zbh) hiy) (by omega)
   simp only [zbh,List.getElem?_cons_succ,List.getElem?_cons_zero,Option.map_some] at hic
   have hrow:=zAS (g:=fun x=>{ x with batch := [] }) hiy (j := 2) (by omega) (x:=(.exact [])) (d:=(.slice [])) (fun _ _=>rfl) rfl
   have hiI:(i:Int)<(m.entries.length:Int):=by omega
   have hi0:0<=(i:Int):=by omega
   have hne0:(m.entries.length:Int)≠0:=by omega
   have hzz:i*5+2+1<=(zac (zu m.entries)).length:=by omega
   have hiw:IntKind.i64.wrap (i:Int)=i:=zab (by omega) (by omega)
   obtain ⟨Rw,hRw⟩:∃ R,zac (zu m.entries)=R:=⟨_,rfl⟩
   rw [hRw] at hic hrow hzz
   simp only [msgR]
   rw [hRw]
   refine zmD (zi q1 (zi q2 (zi q3 (zi r1 (zi r2 (zi r3 (zi r4 (zi r5 (zi r6 (zi r7 (zi r8 (zi hz (zi hwW (zi him (zi hiI (zi hi0 (zi hne0 (zi hiw (zi hic hzz))))))))))))))))))) ?_
   have hne':m.entries≠[]:=List.length_pos_iff.1 hp
   have e:ziU 2 which m = { m with entries:=m.entries.modify i fun x=>{ x with batch := [] } }:=by simp [ziU,hne',hi]
   exact zmn (m:={ m with entries:=m.entries.modify i fun x=>{ x with batch := [] } }) hl (e▸hK) List.take_length (Nat.le_refl _) (List.take_of_length_le (by simp)) (by simp) hrow rfl rfl rfl rfl
 by_cases k3:how=3
 ·subst k3
  have q1:decide ((3:Int)≥2)=true:=rfl
  have q2:decide ((3:Int)<=5)=true:=rfl
  have q3:((3:Int)==6)=false:=rfl
  have r1:((3:Int)==1)=false:=rfl
  have r2:((3:Int)==2)=false:=rfl
  have r3:((3:Int)==3)=true:=rfl
  have r4:((3:Int)==4)=false:=rfl
  have r5:((3:Int)==5)=false:=rfl
  have r6:((3:Int)==6)=false:=rfl
  have r7:((3:Int)==7)=false:=rfl
  have r8:((3:Int)==8)=false:=rfl
  cases hz:((m.entries.length:Int)==0)
  rotate_left
  ·have hz':m.entries = []:=List.eq_nil_of_length_eq_zero (by simp at hz;rw [hz];rfl)
   refine zmD (zi q1 (zi q2 (zi q3 (zi r1 (zi r2 (zi r3 (zi r4 (zi r5 (zi r6 (zi r7 (zi r8 hz))))))))))) ?_
   exact plain _ _ _ m rfl rfl rfl rfl (by simp [ziU,hz'])
  ·have hp:0<m.entries.length:=by simp at hz;exact List.length_pos_iff.2 hz
   obtain ⟨i,y,hi,hil,him,hiy⟩:=hidx hp
   have hic:(zac (zu m.entries))[i*5+1]?=((zbh y)[1]?).map .d:=zjY (entries_five _) (zF (f:=zbh) hiy) (by omega)
   simp only [zbh,List.getElem?_cons_succ,List.getElem?_cons_zero,Option.map_some] at hic
   have hrow:=zAS (g:=fun x=>{ x with seq:=IntKind.i64.wrap (x.seq+1) }) hiy (j := 1) (by omega) (x:=(.d (.int .i64 (IntKind.i64.wrap (y.seq+1))))) (d:=(.int .i64 (IntKind.i64.wrap (y.seq+1)))) (fun _ _=>rfl) rfl
   have hiI:(i:Int)<(m.entries.length:Int):=by omega
   have hi0:0<=(i:Int):=by omega
   have hne0:(m.entries.length:Int)≠0:=by omega
   have hzz:i*5+1+1<=(zac (zu m.entries)).length:=by omega
   have hiw:IntKind.i64.wrap (i:Int)=i:=zab (by omega) (by omega)
   obtain ⟨Rw,hRw⟩:∃ R,zac (zu m.entries)=R:=⟨_,rfl⟩
   rw [hRw] at hic hrow hzz
   simp only [msgR]
   rw [hRw]
   refine zmD (zi q1 (zi q2 (zi q3 (zi r1 (zi r2 (zi r3 (zi r4 (zi r5 (zi r6 (zi r7 (zi r8 (zi hz (zi hwW (zi him (zi hiI (zi hi0 (zi hne0 (zi hiw (zi hic hzz))))))))))))))))))) ?_
   have hne':m.entries≠[]:=List.length_pos_iff.1 hp
   have e:ziU 3 which m = { m with entries:=m.entries.modify i fun x=>{ x with seq:=IntKind.i64.wrap (x.seq+1) } }:=by simp [ziU,hne',hi]
   exact zmn (m:={ m with entries:=m.entries.modify i fun x=>{ x with seq:=IntKind.i64.wrap (x.seq+1) } }) hl (e▸hK) List.take_length (Nat.le_refl _) (List.take_of_length_le (by simp)) (by simp) hrow rfl rfl rfl rfl
 by_cases k5:how=5
 ·subst k5
  have q1:decide ((5:Int)≥2)=true:=rfl
  have q2:decide ((5:Int)<=5)=true:=rfl
  have q3:((5:Int)==6)=false:=rfl
  have r1:((5:Int)==1)=false:=rfl
  have r2:((5:Int)==2)=false:=rfl
  have r3:((5:Int)==3)=false:=rfl
  have r4:((5:Int)==4)=false:=rfl
  have r5:((5:Int)==5)=true:=rfl
  have r6:((5:Int)==6)=false:=rfl
  have r7:((5:Int)==7)=false:=rfl
  have r8:((5:Int)==8)=false:=rfl
  cases hz:((m.entries.length:Int)==0)
  rotate_left
  ·have hz':m.entries = []:=List.eq_nil_of_length_eq_zero (by simp at hz;rw [hz];rfl)
   refine zmD (zi q1 (zi q2 (zi q3 (zi r1 (zi r2 (zi r3 (zi r4 (zi r5 (zi r6 (zi r7 (zi r8 hz))))))))))) ?_
   exact plain _ _ _ m rfl rfl rfl rfl (by simp [ziU,hz'])
  ·have hp:0<m.entries.length:=by simp at hz;exact List.length_pos_iff.2 hz
   obtain ⟨i,y,hi,hil,him,hiy⟩:=hidx hp
   have hic:(zac (zu m.entries))[i*5+4]?=((zbh y)[4]?).map .d:=zjY (entries_five _) (zF (f:=zbh) hiy) (by omega)
   simp only [zbh,List.getElem?_cons_succ,List.getElem?_cons_zero,Option.map_some] at hic
   have hrow:=zAS (g:=fun x=>{ x with dig:=IntKind.i64.wrap (x.dig+1) }) hiy (j := 4) (by omega) (x:=(.d (.int .i64 (IntKind.i64.wrap (y.dig+1))))) (d:=(.int .i64 (IntKind.i64.wrap (y.dig+1)))) (fun _ _=>rfl) rfl
   have hiI:(i:Int)<(m.entries.length:Int):=by omega
   have hi0:0<=(i:Int):=by omega
   have hne0:(m.entries.length:Int)≠0:=by omega
   have hzz:i*5+4+1<=(zac (zu m.entries)).length:=by omega
   have hiw:IntKind.i64.wrap (i:Int)=i:=zab (by omega) (by omega)
   obtain ⟨Rw,hRw⟩:∃ R,zac (zu m.entries)=R:=⟨_,rfl⟩
   rw [hRw] at hic hrow hzz
   simp only [msgR]
   rw [hRw]
   refine zmD (zi q1 (zi q2 (zi q3 (zi r1 (zi r2 (zi r3 (zi r4 (zi r5 (zi r6 (zi r7 (zi r8 (zi hz (zi hwW (zi him (zi hiI (zi hi0 (zi hne0 (zi hiw (zi hic hzz))))))))))))))))))) ?_
   have hne':m.entries≠[]:=List.length_pos_iff.1 hp
   have e:ziU 5 which m = { m with entries:=m.entries.modify i fun x=>{ x with dig:=IntKind.i64.wrap (x.dig+1) } }:=by simp [ziU,hne',hi]
   exact zmn (m:={ m with entries:=m.entries.modify i fun x=>{ x with dig:=IntKind.i64.wrap (x.dig+1) } }) hl (e▸hK) List.take_length (Nat.le_refl _) (List.take_of_length_le (by simp)) (by simp) hrow rfl rfl rfl rfl
 by_cases k4:how=4
 ·subst k4
  have q1:decide ((4:Int)≥2)=true:=rfl
  have q2:decide ((4:Int)<=5)=true:=rfl
  have q3:((4:Int)==6)=false:=rfl
  have r1:((4:Int)==1)=false:=rfl
  have r2:((4:Int)==2)=false:=rfl
  have r3:((4:Int)==3)=false:=rfl
  have r4:((4:Int)==4)=true:=rfl
  have r5:((4:Int)==5)=false:=rfl
  have r6:((4:Int)==6)=false:=rfl
  have r7:((4:Int)==7)=false:=rfl
  have r8:((4:Int)==8)=false:=rfl
  cases hz:((m.entries.length:Int)==0)
  rotate_left
  ·have hz':m.entries = []:=List.eq_nil_of_length_eq_zero (by simp at hz;rw [hz];rfl)
   refine zmD (zi q1 (zi q2 (zi q3 (zi r1 (zi r2 (zi r3 (zi r4 (zi r5 (zi r6 (zi r7 (zi r8 hz))))))))))) ?_
   exact plain _ _ _ m rfl rfl rfl rfl (by simp [ziU,hz'])
  ·have hne':m.entries≠[]:=by simpa using hz
   have hp:0<m.entries.length:=List.length_pos_iff.2 hne'
   have hw1:IntKind.i64.wrap ((m.entries.length:Int)-1)=((m.entries.length-1:Nat):Int):=by rw [zab (by omega) (by omega)];omega
   have e:ziU 4 which m = { m with entries:=m.entries.take (m.entries.length-1) }:=by simp [ziU,hne']
   simp only [msgR]
   refine zmD (zi q1 (zi q2 (zi q3 (zi r1 (zi r2 (zi r3 (zi r4 (zi r5 (zi r6 (zi r7 (zi r8 (zi hz hw1)))))))))))) ?_
   exact zmn (m:={ m with entries:=m.entries.take (m.entries.length-1) }) hl (e▸hK) List.take_length (Nat.le_refl _) rfl (by omega) (fun _ _=>rfl) rfl rfl rfl rfl
 by_cases k6:how=6
 ·subst k6
  have q1:decide ((6:Int)≥2)=true:=rfl
  have q2:decide ((6:Int)<=5)=false:=rfl
  have q3:((6:Int)==6)=true:=rfl
  have r1:((6:Int)==1)=false:=rfl
  have r2:((6:Int)==2)=false:=rfl
  have r3:((6:Int)==3)=false:=rfl
  have r4:((6:Int)==4)=false:=rfl
  have r5:((6:Int)==5)=false:=rfl
  have r6:((6:Int)==6)=true:=rfl
  have r7:((6:Int)==7)=false:=rfl
  have r8:((6:Int)==8)=false:=rfl
  cases hz:((m.changes.length:Int)==0)
  rotate_left
  ·have hz':m.changes = []:=List.eq_nil_of_length_eq_zero (by simp at hz;rw [hz];rfl)
   refine zmD (zi q1 (zi q2 (zi q3 (zi r1 (zi r2 (zi r3 (zi r4 (zi r5 (zi r6 (zi r7 (zi r8 hz))))))))))) ?_
   exact plain _ _ _ m rfl rfl rfl rfl (by simp [ziU,hz'])
  ·have hne':m.changes≠[]:=by simpa using hz
   have hp:0<m.changes.length:=List.length_pos_iff.2 hne'
   have hw1:IntKind.i64.wrap ((m.changes.length:Int)-1)=((m.changes.length-1:Nat):Int):=by rw [zab (by omega) (by omega)];omega
   have e:ziU 6 which m = { m with changes:=m.changes.take (m.changes.length-1) }:=by simp [ziU,hne']
   simp only [msgR]
   refine zmD (zi q1 (zi q2 (zi q3 (zi r1 (zi r2 (zi r3 (zi r4 (zi r5 (zi r6 (zi r7 (zi r8 (zi hz hw1)))))))))))) ?_
   exact zmn (m:={ m with changes:=m.changes.take (m.changes.length-1) }) hl (e▸hK) rfl (by omega) List.take_length (Nat.le_refl _) (fun _ _=>rfl) rfl rfl rfl rfl
 have q12:(decide (how≥2)&&decide (how<=5))=false:=by simp;omega
 have q3:(how==6)=false:=by simp;omega
 have r1:(how==1)=false:=by simp;omega
 have r2:(how==2)=false:=by simp;omega
 have r3:(how==3)=false:=by simp;omega
 have r4:(how==4)=false:=by simp;omega
 have r5:(how==5)=false:=by simp;omega
 have r6:(how==6)=false:=by simp;omega
 have r7:(how==7)=false:=by simp;omega
 have r8:(how==8)=false:=by simp;omega
 have e:ziU how which m=m:=by simp only [ziU];simp [k1,k2,k3,k4,k5,k6,k7,k8]
 cases q1:decide (how≥2)
 ·refine zfC (zi q1 (zi q3 (zi r1 (zi r2 (zi r3 (zi r4 (zi r5 (zi r6 (zi r7 r8))))))))) ?_
  exact plain _ _ _ m rfl rfl rfl rfl e
 ·have q2:decide (how<=5)=false:=by rw [q1] at q12;simpa using q12
  refine zfC (zi q1 (zi q2 (zi q3 (zi r1 (zi r2 (zi r3 (zi r4 (zi r5 (zi r6 (zi r7 r8)))))))))) ?_
  exact plain _ _ _ m rfl rfl rfl rfl e
end Go.Proofs.YtpgahkdjkanblaaGreat
