/- The law ReaderDoes, from the contracts. -/
import Derived.Test.YtfgbofkdhfjegaaGreatBw2
import Derived.Test.YtfgbofkdhfjegaaGreatBase
import Derived.Test.YtfgbofkdhfjegaaGreatAwLoop
set_option linter.all false
set_option maxRecDepth 100000
namespace Go.Proofs.YtfgbofkdhfjegaaGreat
open Go.AW
theorem small_ticks {r:zkJ} (h:r.topic.length<=1048576):(zrG r).length<=1/\∀ x∈zrG r,zdD x.2:=by
 unfold zrG
 split
 ·simp
 ·refine zrJ ?_
  unfold zrF
  split<;>exact h
def znk:List (Bool × List Ty) := [(true,tyCas)]
theorem gq66 {A P Q:Prop} (a:A) (h:Q) (e:A->Hd Q->P:=by intro a h;(repeat' first|simp -dsimp only [↓zeU, ↓zaA, ↓zbp, ↓zeV, ↓zeO, ↓zeM, ↓zeP, ↓zeN, ↓zbu, ↓zbq, ↓zbv, ↓zbr, ↓zeQ, ↓zbo, ↓zbw, ↓zbs, ↓zbx, ↓zbt, ↓zeL, ↓zeT, ↓zbn, ↓zby, ↓zeG, ↓zeF, ↓zeK,iN,bT,bF,eN, ↓zco, ↓unC, ↓zX, ↓zM, ↓zN, ↓zQ, ↓zZ, ↓zai, ↓zcv, ↓zaf, ↓zaS, ↓zV, ↓zl, ↓zm, ↓zbg, ↓ze, ↓zae, ↓zC, ↓zaM, ↓zaT, ↓zd, ↓zA, ↓zr, ↓zD, ↓zao, ↓zcY, ↓zdn, ↓zap, ↓zaw, ↓zaN, ↓zaZ, ↓zbk, ↓zw, ↓zaj, ↓zO, ↓zE, ↓zY,zdr,zbm,zbl,unA,zdo,bnd,zdL,zab,zS,zdI,dm,dm1,zG,zak,zdZ,zdY,zH,Q0,Q1,Q2,Q3,Q4,Q5,zW,zx,zy,zT,zL,Q6,Q7,Q8,Q9,Q10,Q11,Q12,Q13,Q14,Nat.reduceAdd,Q15,Int.reduceToNat,Q16,Q17,Q18,Q19,Q20,reduceIte,Q21,Q22,zF,rep,zaa,zeC,toD,zag,Q23,Q24,Q25,Q26,Q27,Q28,Nat.reduceLeDiff,Q29,Nat.reduceSub,Q30,Q31,Q32,sc,Q33,Q34,Q35,Q36,Q37,Q26,Q38,Q39,zis,zio,zil,zit,zcN,ziq,zim,zir,zin,zcM,zcO,ziu,ziv,Bool.not_true,Bool.not_false,List.length_map,actD,msgD,a]|with_reducible refine zix ?_|fail);exact h.go):P:=e a ⟨h⟩
set_option maxHeartbeats 4000000 in
theorem zwp (xs:List AV) (n:Nat) (hn:n<=1048576) (h:ArgsOk znk xs n):zp Tryz.prog zii xs [] fun r _=>r = .d (.bool true):=by
 obtain ⟨ds,xs1,m1,hf,hb1,rfl,rfl⟩:=h
 obtain ⟨c,rfl,hc⟩:=dec_cas hf (by omega)
 show zp Tryz.prog zii [.agg (zpb c)] [] _
 clear hf hb1
 obtain ⟨σ,hσ⟩:∃ σ:List zh,([]:List zh) = σ:=⟨_,rfl⟩
 have hσr:∀ x∈σ, ∀ g sz cs,x≠.row g sz cs:=by subst hσ;simp
 rw [hσ]
 clear hσ
 refine zfc ztI fun hl => ?_
 simp only [zmO,iN,bT,bF,eN,zl0,zl1]
 refine gq1 ?_
 have hρr:∀ x∈σ++[zh.box (zpb c)], ∀ g sz cs,x≠.row g sz cs:=fun y hy=>by
  rcases List.mem_append.1 hy with hy|hy
  ·exact hσr y hy
  ·simp only [List.mem_cons,List.not_mem_nil,or_false] at hy
   subst hy;intro _ _ _ e;cases e
 refine c_live25 hρr ?_
 refine gq1 ?_
 obtain ⟨ρ,hρ⟩:∃ ρ, σ++[.box (zpb c)] = ρ:=⟨_,rfl⟩
 have r0 : ρ[σ.length]? = some (.box (zpb c)):=by rw [← hρ,zy];rfl
 have hpre:∀ (j:Nat) (x:zh), σ[j]? = some x → ρ[j]? = some x:=fun j x h=>by rw [← hρ];exact zf h
 rw [hρ] at hρr
 change ACallL Tryz.prog zdt [.agg (zpb c)] (σ++[.box (zpb c)]) _ _
 rw [hρ]
 refine c_begunOn hc (fun _ S hE => ?_) fun hz0 S a b u v hO => ?_
 ·have st:=hE.st
  refine zmY st ?_
  refine ends_rest' (take_rest' fun j x hx=>hE.rest j x (hpre j x hx) (hσr x (List.mem_of_getElem? hx))) (by simp [zfz,dmT,dm,dm1,zcJ]) hl rfl
 have hne:=newRE_0 hz0
 have hI:=bgC_I hc
 have hH:=bgC_H hc
 obtain ⟨s,hs⟩:∃ s,bgF (ksC c) (zrL c.recs)=s:=⟨_,rfl⟩
 rw [hs] at hO hI hH
 have c1':=hO.e.rest _ _ r0 (fun _ _ _ e=>by cases e)
 have hal:(actsE c.acts).length=c.acts.length:=List.length_map ..
 have i3:=hI.led
 have i4:=hI.tab
 have hmany:=hc.many
 have st:=hO.e.st
 refine gq2 (zg st (zg c1' hal)) ?_
 refine zo c.acts.length (fun k vs S=>vs = [.d (.int .i64 k)]/\∃ a u g r,OnR ρ (.box (zpb c)) s s.L s.G k a b u g v r r S) ⟨rfl,_,_,_,_,hO⟩ ?_
 clear hO st c1'
 rintro k1 vs S1 hk1 ⟨rfl,a,u,g,r,hO1⟩
 have st1':∀ τ,(S1 ++ τ)[ρ.length+9]? = _:=fun τ=>zf hO1.e.st
 have hln:=hO1.i.len
 have hrec:=fun p hp=>(hO1.i.recs p hp).1
 obtain ⟨t1,t2⟩:=small_ticks hO1.i.topic
 by_cases hl1:k1<c.acts.length
 ·have hd:decide ((k1:Int)<(c.acts.length:Int))=true:=by simp;omega
  have hx1:c.acts[k1]? = some c.acts[k1]:=by simp [hl1]
  have hx3:=hc.acts _ (List.getElem_mem hl1)
  have hgx:=zK (f:=actD) hx1
  obtain ⟨x,hxe⟩:∃ x,c.acts[k1]=x:=⟨_,rfl⟩
  rw [hxe] at hgx hx3
  have hw:IntKind.i64.wrap ((k1:Int)+1)=((k1+1:Nat):Int):=by rw [zU (by omega) (by omega)];rfl
  cases h4:(x.do_==4)
  rotate_left
  ·refine gq66 (zg hd (zg hgx (zg hal (zg st1' h4)))) ?_
   refine c_rdClone (hO1.app _).ra (hO1.app _).ru (by omega) hrec fun g' => ?_
   refine gq2 (zg st1' h4) ?_
   refine c_rdTick (hO1.app _).ra hO1.i fun τ => ?_
   have hO2:∀ T τ,OnR _ _ _ _ _ _ _ _ _ _ _ _ _ _:=fun T τ=>((hO1.app T).tick (tick_I hO1.i) (tick_L r)).app τ
   have st2:=fun T τ=>(hO2 T τ).e.st
   have lb:=zB hO1.rb
   have la:=zB hO1.ra
   have h9:=hO1.ha
   refine gq2 (zg st2 hw) ?_
   refine zas.next hl1 ⟨rfl,S1.length+1,S1.length+2,g',r,((hO2 _ τ).mono (Nat.le_succ k1)).clone (hO1.i.mono (Nat.le_succ k1)) ?_ ?_ (by omega) (by omega) (by omega)⟩
   ·exact zf (zc _ (by rw [zx];rfl) (by omega))
   ·exact zf (zc _ (by rw [zx];rfl) (by omega))
  cases h5:(x.do_==0)
  rotate_left
  ·refine gq66 (zg hd (zg hgx (zg hal (zg st1' (zg h4 h5))))) ?_
   refine c_rdTick (hO1.app _).ra hO1.i fun τ => ?_
   have hO2:∀ T τ,OnR _ _ _ _ _ _ _ _ _ _ _ _ _ _:=fun T τ=>((hO1.app T).tick (tick_I hO1.i) (tick_L r)).app τ
   have st2:=fun T τ=>(hO2 T τ).e.st
   refine gq2 (zg st1' st2) ?_
   refine c_rxTick (hO2 _ τ).rb hO1.i fun τ2 => ?_
   refine gq2 hw ?_
   refine zoA (a:=zrG r) (b:=zrG r) (by omega) t2 t2 ?_
   rw [show decide (zrG r=zrG r)=true by simp]
   refine gq2 hw ?_
   exact zas.next hl1 ⟨rfl,a,u,g,zrF r,(((hO2 _ τ).tickX (tick_I hO1.i) (tick_L r)).app τ2).mono (Nat.le_succ k1)⟩
  refine gq66 (zg hd (zg hgx (zg hal (zg h4 (zg h5 st1'))))) ?_
  refine c_comes (x:=x) (hO1.app _).e (hO1.app _).ra hI (by omega) hH hO1.i hx3 ?_
  have hsm:=zlL hI (by omega) hO1.i hx3
  refine gq2 st1' ?_
  refine zyY (n:=k1) (hO1.app _).ra (hO1.app _).ru (hO1.app _).e.tab (hO1.app _).e.led i4 (by omega) hO1.i (by omega) hsm (fun hne1 τ => ?_) (fun hz1 g' τ => ?_)
  ·refine gq2 st1' ?_
   refine c_rxTake (x:=zfC s r x) (hO1.app _).rb (hO1.app _).rv (hO1.app _).e.xb (hO1.app _).e.yb i4 (by omega) hO1.j (by omega) hsm (fun _ τ2 => ?_) (fun hz2=>absurd hz2 hne1)
   refine zmY st1' ?_
   refine zoA (a := []) (b := []) (by simp) (by simp) (by simp) ?_
   rw [show decide (([]:List (Int × zjF)) = [])=true by simp]
   refine gq2 st1' ?_
   refine zyV (hO1.app _).e (hO1.app _).ra (hO1.app _).ru (hO1.app _).rb hO1.i (by omega) ?_
   refine gq2 hw ?_
   exact zas.next hl1 ⟨rfl,a,u,g,r,(hO1.app _).mono (Nat.le_succ k1)⟩
  ·have htI:=take_I (L:=s.L) (G:=s.G) hO1.i (m:=zfC s r x) hsm.proof.rec_
   rw [takeR,if_pos hz1] at htI
   have hO2:∀ T τ,OnR _ _ _ _ _ _ _ _ _ _ _ _ _ _:=fun T τ=>(((hO1.app T).mono (Nat.le_succ k1)).take (g':=g') htI).app τ
   have st2:=fun T τ=>(hO2 T τ).e.st
   have la:=zB hO1.ra
   have lu:=zB hO1.ru
   have hmb:∀ (X M Y Z:zh) τ,(((S1++[X,M]).set u Y).set a Z ++ τ)[S1.length+1]? = some M:=fun X M Y Z τ=>zf (zc _ (zc _ (by rw [zx];rfl) (by omega)) (by omega))
   refine gq2 (zg st2 hmb) ?_
   refine c_rxTake (x:=zfC s r x) (hO2 _ τ).rb (hO2 _ τ).rv (hO2 _ τ).e.xb (hO2 _ τ).e.yb i4 (by omega) hO1.j (by omega) hsm (fun hne2=>absurd hz1 hne2) (fun _ τ2 => ?_)
   have hO3:∀ T τ τ2,OnR _ _ _ _ _ _ _ _ _ _ _ _ _ _:=fun T τ τ2=>((hO2 T τ).takeX htI).app τ2
   have st3:=fun T τ τ2=>(hO3 T τ τ2).e.st
   obtain ⟨k3,k4⟩:=zrJ (r:=zde r (zfC s r x)) hO1.i.topic
   refine zmY st3 ?_
   refine zoA (a:=zvD (zde r (zfC s r x))) (b:=zvD (zde r (zfC s r x))) (by omega) k4 k4 ?_
   rw [show decide (zvD (zde r (zfC s r x))=zvD (zde r (zfC s r x)))=true by simp]
   refine gq2 st3 ?_
   refine zyV (hO3 _ τ τ2).e (hO3 _ τ τ2).ra (hO3 _ τ τ2).ru (hO3 _ τ τ2).rb htI (by omega) ?_
   refine gq2 hw ?_
   exact zas.next hl1 ⟨rfl,a,u,g',_,hO3 _ τ τ2⟩
 have hd:decide ((k1:Int)<(c.acts.length:Int))=false:=by simp;omega
 have st1:=hO1.e.st
 refine gq2 (zg hd (zg hal st1)) ?_
 refine zyV hO1.e hO1.ra hO1.ru hO1.rb hO1.i (by omega) ?_
 refine gq1 ?_
 refine ends_rest' (take_rest' fun j x hx=>hO1.e.rest j x (hpre j x hx) (hσr x (List.mem_of_getElem? hx))) (by simp [zfz,dmT,dm,dm1,zcJ]) hl rfl
open Go.AW Go.ChangeShapes Go.WideShapes Go.ChangeAt Go.RowKit
theorem ztp {H:Type} {enc:TypeId × Value->H} {P:Program} {w:World} {sp:Nat->Bool} {held:Bool} {vs:List Value} {ds gs:List (DataW H)} {ps:List MemPlace} {ts:List TypeId} (hl:ts.length=1)
  (h:DataW.TrodAll enc P w 0 sp held ts vs ds ps) (hg:gs = []):(Rows.readerDoesSpec).fn H (ds++gs) = { results := [.lit (.bool true)],args:=ds }:=by
 subst hg
 have hd:ds.length=1:=by
  have:∀ (ts:List TypeId) (vs:List Value) (ds:List (DataW H)) (ps:List MemPlace),DataW.TrodAll enc P w 0 sp held ts vs ds ps->ds.length=ts.length:=by
   intro ts
   induction ts with
   | nil=>intro vs ds ps h;cases vs<;>cases ds<;>simp [DataW.TrodAll] at h ⊢
   | cons t ts ih=>
    intro vs ds ps h
    obtain ⟨v,vs',d,ds',p,q,rfl,rfl,rfl,h1,h2⟩:=trodAll_cons h
    simp [ih vs' ds' q h2]
  rw [this ts vs ds ps h,hl]
 rw [List.append_nil]
 match ds,hd with
 | [_],_=>rfl
theorem zsg (os:Os) (started:os.Started) (H:Type) (enc:TypeId × Value->H) (F:Stop.Interp) :
  ReturnsInHanded {} Tryz.checked os 5 .any ((Rows.OpenSpec.upto Rows.readerDoesSpec).pre6 enc Tryz.prog Tryz.f5 Rows.readerDoesUptoRow.domain false) (((Rows.OpenSpec.upto Rows.readerDoesSpec).at F).post enc Tryz.prog Tryz.f5 false true false false):=by
 refine returnsInHanded_of_cond (C:=Tryz.checked) (s:=Rows.OpenSpec.upto Rows.readerDoesSpec) (k:=Rows.uptoSmall) rfl own started (by kernel_rfl) Tryz.func5
  (OpenSpec.witness (enc:=enc) (C:=Tryz.checked) (s:=Rows.OpenSpec.upto Rows.readerDoesSpec) (k:=Rows.uptoSmall) rfl false ⟨#[], #[(.agg #[(.int .i64 0),(.int .i64 0),(.string .empty),(.int .i64 0),(.slice none 0 0),(.int .u16 0),(.slice none 0 0),(.slice none 0 0)])],[]⟩ 24 (by kernel_rfl) (by kernel_rfl) (by kernel_rfl)
   (x:=([(.agg [(.lit (.int .i64 0)),(.lit (.int .i64 0)),(.lit (.string [])),(.lit (.int .i64 0)),.nil,(.lit (.int .u16 0)),.nil,.nil])],[],[])) (by kernel_rfl) rfl (by kernel_rfl)) ?_
 intro W base args ds gs before hval hW _ hk _
 have hW0:DataW.Whole enc Tryz.prog Tryz.f5.params.toList (Rows.readerDoesSpec).vars false W args.toList ds gs before:=hW
 have hg:gs = []:=by
  obtain ⟨p,q,hA,hV,_⟩:=hW0
  cases gs with
  | nil=>rfl
  | cons=>simp [Rows.readerDoesSpec,DataW.TrodVars] at hV
 refine law_calls isBulk hval hW0 (pars:=znk) (by kernel_rfl) rfl (by obtain ⟨p,q,hA,_⟩:=hW0;exact ztp (by kernel_rfl) hA hg) laidOut mapsLaid slicesFull (by kernel_rfl) (tb := 4) (by kernel_rfl) (by kernel_rfl) fun xs has=>zwp xs _ ?_ has
 have:=small hk
 rw [hg,List.append_nil] at this
 exact this
theorem readerDoes_upto:Rows.ReaderDoesUptoSaid:=
 OpenClaim.holds_of_cond 5 Tryz.f5 rfl rfl rfl rfl rfl rfl rfl ⟨rfl,rfl,rfl,rfl,rfl⟩ rfl rfl rfl rfl rfl (by kernel_rfl) Tryz.func5 (by unfold joinedFacts;rw [any_loops,any_loops]<;>kernel_rfl)
  (of_decide_eq_true (by kernel_rfl)) (by unfold Func.isWrapper;first|(rw [if_pos (by decide +kernel)];kernel_rfl)|(rw [if_neg (by decide +kernel)];exact ⟨rfl,rfl⟩))
  (fun os started H enc _ F=>zsg os started H enc F)
end Go.Proofs.YtfgbofkdhfjegaaGreat
