/- Contract: whether a new view is one, the program's. -/
import Derived.Test.YtpgahkdjkanblaaGreatMa7
set_option linter.all false
set_option maxRecDepth 100000
namespace Go.Proofs.YtpgahkdjkanblaaGreat
open Go.AW
def zwv (L:List (List UInt8)) (G:List zy) (key:Int) (a b:List zaI):Bool:=(a.zip b).all fun p=>znU p.1 p.2&&zeG L G key p.1
def zwU (L:List (List UInt8)) (G:List zy) (f:Int) (m:zcS):Bool:=
 decide (m.kind=8)&&(decide (zbs f=0)&&(decide (m.src=zbG f m.view)&&(zcr L G m&&(decide (zjn f m.view m.changes=0)&&(decide ((zfZ f m.view m.changes).2.1.length=m.entries.length)&&(m.changes.all (zbq L G f m.view)&&zwv L G m.src m.entries (zfZ f m.view m.changes).2.1))))))
structure ChkR where
 c:zeP
 xs:List zaI
 ok:Bool
def zAF (L:List (List UInt8)) (G:List zy) (f:Int) (m:zcS):ChkR:=if zwU L G f m=true then ⟨(zfZ f m.view m.changes).1,m.entries,true⟩ else ⟨zgN,[],false⟩
structure okNv (m:zcS):Prop where
 small:zbn m
 many:m.changes.length<=1048576
 each:∀ c∈m.changes,zqf c
 range:∀ c∈m.changes,zgL c
theorem sameW_eq {x y:zaI} (h:znU x y=true):x.view=y.view/\x.seq=y.seq/\x.batch=y.batch:=by simpa [znU] using h
theorem row_set2 {es:List (List D)} {k:Nat} {y:List D} (h5:∀ e∈es,e.length=5) (hy:es[k]? = some y) (a b:D) :
  (zac es).take (k*5+3)++(AV.d a::AV.d b::(zac es).drop (k*5+3+2))=zac (es.set k ((y.set 3 a).set 4 b)):=by
 have hy5:=h5 y (List.mem_of_getElem? hy)
 have h1:=zwt h5 hy (i := 3) (by omega) a
 have h5':∀ e∈es.set k (y.set 3 a),e.length=5:=fun e he=>by
  rcases List.mem_or_eq_of_mem_set he with he|rfl
  ·exact h5 e he
  ·simpa using hy5
 have hk:=(List.getElem?_eq_some_iff.1 hy).1
 have hy':(es.set k (y.set 3 a))[k]? = some (y.set 3 a):=List.getElem?_set_self hk
 have h2:=zwt h5' hy' (i := 4) (by omega) b
 rw [List.set_set] at h2
 rw [← h2, ← h1]
 have hl:(zac es).length=es.length*5:=zeM h5
 have hm:(k+1)*5<=es.length*5:=Nat.mul_le_mul_right _ hk
 apply List.ext_getElem?
 intro j
 rw [List.getElem?_set,List.getElem?_set,List.length_set]
 rcases Nat.lt_or_ge j (k*5+3) with hj|hj
 ·rw [List.getElem?_append_left (by rw [List.length_take];omega),List.getElem?_take,if_pos hj,if_neg (by omega),if_neg (by omega)]
 ·rw [List.getElem?_append_right (by rw [List.length_take];omega),List.length_take,Nat.min_eq_left (by omega)]
  rcases Nat.eq_or_lt_of_le hj with e|e
  ·subst e
   rw [Nat.sub_self,if_neg (by omega),if_pos rfl,if_pos (by omega)];rfl
  ·rcases Nat.eq_or_lt_of_le (show k*5+4<=j by omega) with e|e
   ·subst e
    rw [show k*5+4-(k*5+3)=1 by omega,if_pos rfl,if_pos (by omega)];rfl
   ·rw [if_neg (by omega),if_neg (by omega)]
    obtain ⟨i,rfl⟩:∃ i,j=k*5+5+i:=⟨j-(k*5+5),by omega⟩
    rw [show k*5+5+i-(k*5+3)=i+2 by omega,List.getElem?_cons_succ,List.getElem?_cons_succ,List.getElem?_drop]
theorem c_nvCheck {σ:List zd} {id m t id2 m2 t2:Nat} {L:List (List UInt8)} {G:List zy} {f:Int} {M:zcS} (hT:zea σ id m t L) (hG:zdL σ id2 m2 t2 G) (hL:zka L) (hg:G.length<=1073741824) (hM:okNv M) {K:KT}
  (hK:K (.tup [zdu (zAF L G f M).c,.d (.slice (zu (zAF L G f M).xs)),.d (.bool (zAF L G f M).ok)]) σ):zj Tryz.prog zkn [.box id 0,.box id2 0,.d (.int .i64 f),zeR M] σ K:=by
 refine zsF zno.is rfl 2 fun hl _=>zno.goes ?_
 have hT1:=fun τ=>hT.app τ
 have hG1:=fun τ=>hG.app τ
 have bad:∀ τ,zwU L G f M=false->EndsF 2 σ.length K (some [.agg [.d (.int .i64 0),.d (.int .i64 0),.exact []],.exact [],.d (.bool false)]) (σ ++ τ):=fun τ h=>by
  have e:zAF L G f M=⟨zgN,[],false⟩:=by rw [zAF,if_neg (by rw [h];decide)]
  rw [e] at hK
  exact zmc (r := .tup [zdu zgN,.d (.slice []),.d (.bool false)]) rfl hl hK
 have hcl:(zR M.changes).length=M.changes.length:=List.length_map ..
 have hel:(zu M.entries).length=M.entries.length:=List.length_map ..
 have hml:=hM.many
 simp only [znv,iN,bT,bF,eN,zl4]
 cases h1:(M.kind==8)
 ·refine zol h1 ?_
  exact bad _ (by simp at h1;simp [zwU,h1])
 have h1':M.kind=8:=by simpa using h1
 refine zol h1 ?_
 refine zkE ?_
 cases h2:(zbs f==0)
 ·refine zol h2 ?_
  exact bad _ (by simp at h2;simp [zwU,h2])
 refine zol h2 ?_
 refine zrr ?_
 cases h3:(M.src==zbG f M.view)
 ·refine zol h3 ?_
  exact bad _ (by simp at h3;simp [zwU,h3])
 refine zol h3 ?_
 refine c_auValid8 (M:=M) (hT1 _) (hG1 _) hL hg hM.small h1' ?_
 cases h4:zcr L G M
 ·refine zQ ?_
  exact bad _ (by simp [zwU,h4])
 refine zQ ?_
 refine zxd (zgU hM.many hM.each) hM.range (fun h5 => ?_) fun h5 g GV R hR => ?_
 ·have h5':(zjn f M.view M.changes != 0)=true:=by simpa using h5
  refine zfC h5' ?_
  exact bad _ (by simp [zwU,h5])
 rw [show (σ++[zd.box (msgL M),zd.box [.d (.int .i64 0),.d (.int .i64 0),.exact []]]).length = σ.length+2 from by simp] at hR ⊢
 obtain ⟨c,hc⟩:∃ c,(zfZ f M.view M.changes).1=c:=⟨_,rfl⟩
 obtain ⟨xs,hxs⟩:∃ c,(zfZ f M.view M.changes).2.1=c:=⟨_,rfl⟩
 have hes:=zpA (f:=f) (view:=M.view) hM.each
 rw [hxs] at hR hes
 rw [hc]
 have h8:=changes_eight M.changes
 have hxl:(zu xs).length=xs.length:=List.length_map ..
 have hcB:zwU L G f M=(decide (xs.length=M.entries.length)&&(M.changes.all (zbq L G f M.view)&&zwv L G M.src M.entries xs)):=by
  simp only [zwU,hxs,h1',h5,h4,decide_true,Bool.true_and]
  simp at h2 h3
  simp [h2, ← h3]
 have good:zwv L G M.src M.entries xs=true->M.changes.all (zbq L G f M.view)=true->xs.length=M.entries.length->K (.tup [zdu c,.d (.slice (zu M.entries)),.d (.bool true)]) σ:=fun a b d=>by
  have e:zAF L G f M=⟨c,M.entries,true⟩:=by rw [zAF,if_pos (by rw [hcB,a,b];simp [d]),hc]
  rw [e] at hK
  exact hK
 clear hK
 have hsl:(zO c.signs).length=c.signs.length:=List.length_map ..
 have f1:∀ X Y Z,frz (σ++X::Y::.row g 2 (zac (zO c.signs))::Z) σ.length 2 (.rsl (σ.length+2) g 2 0 c.signs.length)=some (.slice (zO c.signs)):=fun X Y Z=>by
  rw [← hsl]
  exact zky (m := 0) (by rw [zB];rfl) (by omega) (zoo _)
 have all1:∀ k,k<M.changes.length->∀ c',M.changes[k]? = some c' → zbq L G f M.view c' = false->zwU L G f M=false:=fun k _ c' hx hv=>by
  rw [hcB,zub hx hv];simp
 rcases hR with ⟨rfl,rfl,rfl⟩|⟨hne,g2,rfl,rfl⟩
 ·cases h6:(((0:Nat):Int)==(M.entries.length:Int))
  ·refine zol (zi h6 hel) ?_
   exact bad _ (by
    rw [hcB];have:¬ (0:Nat)=M.entries.length:=fun e=>by rw [← e] at h6;simp at h6
    simp [this])
  refine zol (zi h6 (zi hel hcl)) ?_
  refine zl M.changes.length (fun k vs s=>vs = [.d (.int .i64 k)]/\(∃ T,s = σ++(.box (msgL M)::.box [.d (.int .i64 0),.d (.int .i64 0),.exact []]::.row g 2 (zac (zO c.signs))::.box [.d (.int .i64 c.seq),.d (.int .i64 c.dig),.rsl (σ.length+2) g 2 0 c.signs.length]::T))/\(M.changes.take k).all (zbq L G f M.view)=true) ⟨rfl,⟨[],rfl⟩,rfl⟩ ?_
  rintro k vs s hk ⟨rfl,⟨T,rfl⟩,hall⟩
  by_cases hlt:k<M.changes.length
  ·have hd:decide ((k:Int)<(M.changes.length:Int))=true:=by simp;omega
   have hx:M.changes[k]? = some M.changes[k]:=by simp [hlt]
   have hgx:=zF (f:=zat) hx
   have hxc:=hM.each _ (List.getElem_mem hlt)
   have ha:=all1 k hlt _ hx
   obtain ⟨c',hc'⟩:∃ c',M.changes[k]=c':=⟨_,rfl⟩
   rw [hc'] at hx hgx hxc ha
   refine zfG (zi hd hgx) ?_
   refine zxc (c:=c') (hT1 _) (hG1 _) hL hg hxc ?_
   cases hv:zbq L G f M.view c'
   ·refine zQ ?_
    exact bad _ (ha hv)
   ·refine zfC (wki k (by omega)) ?_
    exact zan.next hlt ⟨rfl,⟨_,rfl⟩,znk hall hx hv⟩
  ·have hd:decide ((k:Int)<(M.changes.length:Int))=false:=by simp;omega
   rw [List.take_of_length_le (by omega)] at hall
   have hm0:M.entries = []:=List.eq_nil_of_length_eq_zero (by simp at h6;omega)
   have hK:=good (by rw [hm0];rfl) hall (by rw [hm0])
   rw [hm0] at hK
   refine zfC (zi hd (zi hel hm0)) ?_
   refine zl 0 (fun k vs s=>vs = [.d (.int .i64 0)]/\s = σ++(.box (msgL M)::.box [.d (.int .i64 0),.d (.int .i64 0),.exact []]::.row g 2 (zac (zO c.signs))::.box [.d (.int .i64 c.seq),.d (.int .i64 c.dig),.rsl (σ.length+2) g 2 0 c.signs.length]::T)) ⟨rfl,rfl⟩ ?_
   rintro k vs s hk ⟨rfl,rfl⟩
   refine zfC (show decide ((0:Int)<((0:Nat):Int))=false from rfl) ?_
   refine zmc (r := .tup [zdu c,.d (.slice []),.d (.bool true)]) ?_ hl hK
   have f2:∀ X Y Z,zxW (σ++X::Y::.row g 2 (zac (zO c.signs))::Z) σ.length 2 (.agg [.d (.int .i64 c.seq),.d (.int .i64 c.dig),.rsl (σ.length+2) g 2 0 c.signs.length])=some (zdu c):=fun X Y Z=>by
    simp only [zxW,List.map_cons,List.map_nil,frz_d,f1,zyn]
   have f3:∀ s,zxW s σ.length 2 (.exact [])=some (.d (.slice [])):=fun _=>rfl
   have f4:∀ s x,zxW s σ.length 2 (.d x)=some (.d x):=fun _ _=>rfl
   simp only [zcq,frzT,List.map_cons,List.map_nil,f2,f3,f4,zyn]
 ·rw [show σ.length+2+1 = σ.length+3 from rfl,List.append_assoc]
  cases h6:((xs.length:Int)==(M.entries.length:Int))
  ·refine zol (zi h6 hel) ?_
   exact bad _ (by
    rw [hcB];have:¬ xs.length=M.entries.length:=fun e=>by rw [← e] at h6;simp at h6
    simp [this])
  have h6':xs.length=M.entries.length:=by simp at h6;omega
  refine zol (zi h6 (zi hel hcl)) ?_
  refine zl M.changes.length (fun k vs s=>vs = [.d (.int .i64 k)]/\(∃ T,s = σ++(.box (msgL M)::.box [.d (.int .i64 0),.d (.int .i64 0),.exact []]::.row g 2 (zac (zO c.signs))::.row g2 5 (zac (zu xs))::.box [.d (.int .i64 c.seq),.d (.int .i64 c.dig),.rsl (σ.length+2) g 2 0 c.signs.length]::T))/\(M.changes.take k).all (zbq L G f M.view)=true) ⟨rfl,⟨[],rfl⟩,rfl⟩ ?_
  rintro k vs s hk ⟨rfl,⟨T,rfl⟩,hall⟩
  by_cases hlt:k<M.changes.length
  ·have hd:decide ((k:Int)<(M.changes.length:Int))=true:=by simp;omega
   have hx:M.changes[k]? = some M.changes[k]:=by simp [hlt]
   have hgx:=zF (f:=zat) hx
   have hxc:=hM.each _ (List.getElem_mem hlt)
   have ha:=all1 k hlt _ hx
   obtain ⟨c',hc'⟩:∃ c',M.changes[k]=c':=⟨_,rfl⟩
   rw [hc'] at hx hgx hxc ha
   refine zfG (zi hd hgx) ?_
   refine zxc (c:=c') (hT1 _) (hG1 _) hL hg hxc ?_
   cases hv:zbq L G f M.view c'
   ·refine zQ ?_
    exact bad _ (ha hv)
   ·refine zfC (wki k (by omega)) ?_
    exact zan.next hlt ⟨rfl,⟨_,rfl⟩,znk hall hx hv⟩
  have hd:decide ((k:Int)<(M.changes.length:Int))=false:=by simp;omega
  rw [List.take_of_length_le (by omega)] at hall
  have badE:zwv L G M.src M.entries xs=false->zwU L G f M=false:=fun h=>by rw [hcB,h];simp
  have hzl:(M.entries.zip xs).length=M.entries.length:=by rw [List.length_zip];omega
  refine zfC (zi hd hel) ?_
  clear hd hlt hk
  refine zl M.entries.length (fun k vs s=>vs = [.d (.int .i64 k)]/\(∃ T,s = σ++(.box (msgL M)::.box [.d (.int .i64 0),.d (.int .i64 0),.exact []]::.row g 2 (zac (zO c.signs))::.row g2 5 (zac (zu (M.entries.take k++xs.drop k)))::.box [.d (.int .i64 c.seq),.d (.int .i64 c.dig),.rsl (σ.length+2) g 2 0 c.signs.length]::T))/\((M.entries.zip xs).take k).all (fun p=>znU p.1 p.2&&zeG L G M.src p.1)=true) ⟨rfl,⟨T,by rw [List.take_zero,List.nil_append,List.drop_zero]⟩,by rw [List.take_zero];rfl⟩ ?_
  clear T
  rintro k vs s hk ⟨rfl,⟨T,rfl⟩,hAll⟩
  by_cases hlt:k<M.entries.length
  ·have hd:decide ((k:Int)<(M.entries.length:Int))=true:=by simp;omega
   have hx:M.entries[k]? = some M.entries[k]:=by simp [hlt]
   have hy:xs[k]? = some (xs[k]'(by omega)):=List.getElem?_eq_getElem _
   have hgx:=zF (f:=zbh) hx
   have hxk:=hM.small.entry _ (List.getElem_mem hlt)
   have hyk:=(hes.2 (xs[k]'(by omega)) (List.getElem_mem _)).okB
   obtain ⟨x,hxe⟩:∃ c',M.entries[k]=c':=⟨_,rfl⟩
   obtain ⟨y,hye⟩:∃ c',(xs[k]'(by omega))=c':=⟨_,rfl⟩
   rw [hxe] at hx hgx hxk
   rw [hye] at hy hyk
   have hz:(M.entries.zip xs)[k]? = some (x,y):=by rw [List.getElem?_zip_eq_some];exact ⟨hx,hy⟩
   have hlk:(M.entries.take k).length=k:=by rw [List.length_take];omega
   have hq:(M.entries.take k++xs.drop k)[k]? = some y:=by
    rw [List.getElem?_append_right (by omega),hlk,Nat.sub_self,List.getElem?_drop,Nat.add_zero];exact hy
   have hset:(M.entries.take k++xs.drop k).set k x=M.entries.take (k+1)++xs.drop (k+1):=by
    have e1:xs.drop k=y::xs.drop (k+1):=by rw [List.drop_eq_getElem_cons (by omega),hye]
    rw [List.set_append_right _ _ (by omega),hlk,Nat.sub_self,e1,List.set_cons_zero,List.take_add_one,hx];simp
   have h5:=entries_five (M.entries.take k++xs.drop k)
   have hgq:=zF (f:=zbh) hq
   have hget:=zse h5 hgq
   have hstore:=row_set2 h5 hgq (.int .i64 x.key) (.int .i64 x.dig)
   have hRl:(zac (zu (M.entries.take k++xs.drop k))).length=M.entries.length*5:=by rw [zeM h5,List.length_map,List.length_append,hlk,List.length_drop,h6'];congr 1;omega
   have hbadk:(znU x y&&zeG L G M.src x)=false->zwU L G f M=false:=fun h=>badE (zub hz h)
   obtain ⟨Rw,hRw⟩:∃ R,zac (zu (M.entries.take k++xs.drop k))=R:=⟨_,rfl⟩
   rw [hRw] at hget hstore hRl ⊢
   have zz1:k*5+5<=Rw.length:=by omega
   have zz2:k*5+3+2<=Rw.length:=by omega
   have zk:0<=(k:Int):=by omega
   have zx:(k:Int)<(xs.length:Int):=by omega
   refine zfG (zi hd (zi hgx (zi zk (zi zx (zi zz1 hget))))) ?_
   refine c_nvSame (a:=x) (b:=y) hxk.2 hyk.2 ?_
   cases h7:znU x y
   ·refine zQ ?_
    exact bad _ (hbadk (by rw [h7];rfl))
   refine zQ ?_
   refine zym (x:=x) (hT1 _) (hG1 _) hL hg hxk.1 ?_
   cases h8:zeG L G M.src x
   ·refine zQ ?_
    exact bad _ (hbadk (by rw [h7,h8];rfl))
   refine zmD (zi zk (zi zx (zi zz2 (zi hstore (wki k (by omega)))))) ?_
   obtain ⟨w1,w2,w3⟩:=sameW_eq h7
   have hxy:((zbh y).set 3 (.int .i64 x.key)).set 4 (.int .i64 x.dig)=zbh x:=by simp only [zbh,w1,w2,w3,List.set_cons_succ,List.set_cons_zero]
   have hse:(zu (M.entries.take k++xs.drop k)).set k (zbh x)=zu (M.entries.take (k+1)++xs.drop (k+1)):=by rw [← hset];exact List.map_set.symm
   rw [hxy,hse]
   exact zan.next hlt ⟨rfl,⟨T++[zd.box [.d (.int .i64 x.view),.d (.int .i64 x.seq),.d (.slice (zaP x.batch)),.d (.int .i64 x.key),.d (.int .i64 x.dig)]],rfl⟩,znk hAll hz (by rw [h7,h8];rfl)⟩
  ·have hd:decide ((k:Int)<(M.entries.length:Int))=false:=by simp;omega
   rw [List.take_of_length_le (by omega)] at hAll
   have hK:=good hAll hall h6'
   rw [List.take_of_length_le (by omega),List.drop_of_length_le (by omega),List.append_nil]
   refine zfC hd ?_
   refine zmc (r := .tup [zdu c,.d (.slice (zu M.entries)),.d (.bool true)]) ?_ hl hK
   have f2:∀ X Y Z,zxW (σ++X::Y::.row g 2 (zac (zO c.signs))::Z) σ.length 2 (.agg [.d (.int .i64 c.seq),.d (.int .i64 c.dig),.rsl (σ.length+2) g 2 0 c.signs.length])=some (zdu c):=fun X Y Z=>by
    simp only [zxW,List.map_cons,List.map_nil,frz_d,f1,zyn]
   have f3:∀ X Y Z W,zxW (σ++X::Y::Z::.row g2 5 (zac (zu M.entries))::W) σ.length 2 (.rsl (σ.length+3) g2 5 0 xs.length)=some (.d (.slice (zu M.entries))):=fun X Y Z W=>by
    have:frz (σ++X::Y::Z::.row g2 5 (zac (zu M.entries))::W) σ.length 2 (.rsl (σ.length+3) g2 5 0 xs.length)=some (.slice (zu M.entries)):=by
     rw [h6', ← hel]
     exact zky (m := 0) (by rw [zB];rfl) (by omega) (entries_five _)
    simp only [zxW,this]
   have f4:∀ s x,zxW s σ.length 2 (.d x)=some (.d x):=fun _ _=>rfl
   simp only [zcq,frzT,List.map_cons,List.map_nil,f2,f3,f4,zyn]
end Go.Proofs.YtpgahkdjkanblaaGreat
