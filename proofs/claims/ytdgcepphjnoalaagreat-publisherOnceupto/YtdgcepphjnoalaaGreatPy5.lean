/- Chapter 24: an operation of a script, both sides. -/
import Derived.Test.YtdgcepphjnoalaaGreatPq6
import Derived.Test.YtdgcepphjnoalaaGreatBase
import Derived.Test.YtdgcepphjnoalaaGreatAwLoop
set_option linter.all false
set_option maxRecDepth 100000
namespace Go.Proofs.YtdgcepphjnoalaaGreat
open Go.AW
section
variable {σ:List AObj} {K:KT} {a:TPl} {p n N:Nat} {x:AV} {t:TTw}
theorem c_does0 (h:OnW a p n x t σ)(hI:TwI N t)(hN:N<=900000){o:zuO}(ho:SopI o)(hd:o.do_=0)
  (hK:∀S p' n' x',OnW a p' n' x' (znp t o) S->(∀(j:Nat) (y:AObj),Els a p n j→σ[j]? = some y->S[j]? = some y)->K (.d (.bool true)) S) :
  zP zdD [.box a.w 0,.agg (zvs o)] σ K:=by
 obtain⟨⟨b1,b2,b3,b4,b5,b6⟩,⟨c1,c2,c3,c4,c5⟩,⟨d1,d2,d3,d4⟩,⟨e1,e2,e3⟩,⟨f1,f2⟩,f⟩:=h.ne;have ow:=h.off a.w (by simp);have oq:=h.off a.q (by simp);have ou:=h.off a.u (by simp);have og:=h.off a.g (by simp);have ov:=h.off a.v (by simp);have op:=h.off p (by simp);have on:=h.off n (by simp);have hw':∀τ,(σ++τ)[a.w]? = _:=fun τ=>zi h.hw;have hG:=hI.G;have e0:znp t o=⟨zAF t.L t.d o.op,zAG t.L t.G t.d o.op,zrx t.L t.d o.op,t.M⟩:=by rw[znp,if_pos hd]
 rw[e0]at hK;refine zeP zda.is rfl fun hl _=>zda.goes ?_;have hon:Off a.i σ.length:=zzO h.tg (by omega);obtain⟨l1,l2,l3,l4,l5,l6,l7⟩:=h.lts;simp only[zfW,iN,bT,bF,eN,zl3];obtain⟨B,hB⟩:∃B,AObj.box (zvs o)=B:=⟨_,rfl⟩;have gB:(σ++[B])[σ.length]? = some (.box (zvs o)):=by rw[zC,← hB];rfl
 unfold zvs at gB hB ⊢;refine zm (zd (show(o.do_==0)=true by simpa using hd) hw') ?_;rw[hB];refine c_pAskG (h.tg.app _) hI.L (by omega) (zi h.hp) op on (Ne.symm f) ho.sz ho.ok hI.d hN (h.sy.keep fun y hy=>zi hy) fun S x' n' hT hp1 hs1 hne hnn kp=>?_;have k0:∀(j:Nat) (y:AObj),j≠p->Off a.i j→σ[j]? = some y->S[j]? = some y:=fun j y h1 h2 hy=>kp j y h1 h2 (zi hy);have sw:=k0 a.w _ d3 ow h.hw;have sb:=kp σ.length _ (by omega) hon gB;refine zm (zd sw sb) ?_;refine c_xAskG (k0 _ _ b5 ou h.hu) (k0 _ _ c4 og h.hg) b1 (Ne.symm b3) (Ne.symm c2) hI.L (by omega) (k0 _ _ e2 oq h.hq) ho.sz ho.ok hI.d hN fun S2 u2 g2 q2 kp2=>?_;have sw2:=kp2 _ _ d1 (Ne.symm b2) (Ne.symm c1) sw;have sb2:=kp2 σ.length _ (by omega) (by omega) (by omega) sb;refine zm (zd sw2 sb2) ?_;refine c_outs (askD_two ho.ok) ?_;refine gq28 ?_;have hnn':n'=n∨σ.length<=n':=by
  rcases hnn with e|e
  ·exact .inl e
  ·right;simp at e;omega
 have hex:∃y,S[n']? = some y:=by
  rcases hnn with rfl|e
  ·exact h.hn.imp fun y hy=>k0 _ _ (Ne.symm f) on hy
  ·exact⟨_,List.getElem?_eq_getElem e.2⟩
 obtain⟨nd,off⟩:=h.nd2 (p':=p) (n':=n') (.inl rfl) hnn' hne (.inl f);have on':Off a.i n':=off n' (by simp);have q1:∀j:Nat,¬Off a.i j->j≠a.q/\j≠a.u/\j≠a.g:=fun j hj=>⟨fun e=>hj (e▸oq),fun e=>hj (e▸ou),fun e=>hj (e▸og)⟩;have ndm:=nd;simp only[List.nodup_cons,List.mem_cons,List.not_mem_nil,or_false,not_or,not_false_eq_true,List.nodup_nil,and_true]at ndm;refine zld (hK S2 p n' x' ⟨hT.keepO fun j y hj hy=>kp2 _ _ (q1 j hj).1 (q1 j hj).2.1 (q1 j hj).2.2 hy,u2,g2,sw2,kp2 _ _ (Ne.symm e2) (Ne.symm b5) (Ne.symm c4) hp1,q2,kp2 _ _ (Ne.symm e1) (Ne.symm b4) (Ne.symm c3) (k0 _ _ f1 ov h.hv),hs1.keep fun y hy=>kp2 _ _ (Ne.symm ndm.2.2.2.1.2.2) (Ne.symm ndm.1.2.2.2.2.2) (Ne.symm ndm.2.1.2.2.2.2) hy,hex.imp fun y hy=>kp2 _ _ (Ne.symm ndm.2.2.2.1.2.2) (Ne.symm ndm.1.2.2.2.2.2) (Ne.symm ndm.2.1.2.2.2.2) hy,nd,off⟩ fun j y hj hy=>?_);obtain⟨j1,j2,j3,j4,j5,j6,j7,j8⟩:=hj;exact kp2 _ _ j5 j2 j3 (k0 _ _ j7 j1 hy)
theorem c_does2 (h:OnW a p n x t σ)(hI:TwI N t)(hN:N<=900000){o:zuO}(ho:SopI o)(hd:o.do_=2)
  (hK:∀S p' n' x',OnW a p' n' x' (znp t o) S->(∀(j:Nat) (y:AObj),Els a p n j→σ[j]? = some y->S[j]? = some y)->K (.d (.bool true)) S) :
  zP zdD [.box a.w 0,.agg (zvs o)] σ K:=by
 obtain⟨⟨b1,b2,b3,b4,b5,b6⟩,⟨c1,c2,c3,c4,c5⟩,⟨d1,d2,d3,d4⟩,⟨e1,e2,e3⟩,⟨f1,f2⟩,f⟩:=h.ne;have oq:=h.off a.q (by simp);have op:=h.off p (by simp);have hw':∀τ,(σ++τ)[a.w]? = _:=fun τ=>zi h.hw;have e0:znp t o={ t with d:=zfY t.d }:=by rw[znp,if_neg (by omega),if_neg (by omega),if_pos hd]
 rw[e0]at hK;refine zeP zda.is rfl fun hl _=>zda.goes ?_;obtain⟨l1,l2,l3,l4,l5,l6,l7⟩:=h.lts;simp only[zfW,iN,bT,bF,eN,zl3];obtain⟨B,hB⟩:∃B,AObj.box (zvs o)=B:=⟨_,rfl⟩;unfold zvs at hB ⊢;refine zm (zd (show(o.do_==0)=false by simp;omega) (zd (show(o.do_==1)=false by simp;omega) (zd (show(o.do_==2)=true by simpa using hd) hw'))) ?_;rw[hB];refine c_pTickG (zi h.hp) hI.d hN ?_;obtain⟨S1,hS1⟩:∃S,(σ++[B]).set p (.box (zmm (zfY t.d) a.i.id a.i.id2 x))=S:=⟨_,rfl⟩;have k1:∀(j:Nat) (y:AObj),j≠p→σ[j]? = some y->S1[j]? = some y:=fun j y hj hy=>by rw[← hS1];exact zqZ (zi hy) hj
 have p1:S1[p]? = some (.box (zmm (zfY t.d) a.i.id a.i.id2 x)):=by rw[← hS1];exact List.getElem?_set_self (by simp;omega)
 have sw:=k1 _ _ d3 h.hw;rw[hS1];refine zm (zd sw hw') ?_;refine c_xTick (d:=t.d) (u:=a.u) (g:=a.g) (sy:=.d (.slice (zho t.d.says))) (k1 _ _ e2 h.hq) hI.d hN (fun k _=>.d _) ?_;obtain⟨S2,hS2⟩:∃S,S1.set a.q (.box (zlJ (zfY t.d) a.u a.g (.d (.slice (zho t.d.says)))))=S:=⟨_,rfl⟩;have k2:∀(j:Nat) (y:AObj),j≠a.q->S1[j]? = some y->S2[j]? = some y:=fun j y hj hy=>by rw[← hS2];exact zqZ hy hj
 have q2:S2[a.q]? = some (.box (zlJ (zfY t.d) a.u a.g (.d (.slice (zho (zfY t.d).says))))):=by rw[← hS2];exact List.getElem?_set_self (zY (k1 _ _ e2 h.hq))
 rw[hS2];refine c_outs (tickO_two hI.ok) ?_;refine zG ?_;have kk:∀(j:Nat) (y:AObj),j≠p->j≠a.q→σ[j]? = some y->S2[j]? = some y:=fun j y h1 h2 hy=>k2 _ _ h2 (k1 _ _ h1 hy);refine zld (hK S2 p n x ⟨h.tg.keepO fun j y hj hy=>kk _ _ (fun e=>hj (e▸op)) (fun e=>hj (e▸oq)) hy,kk _ _ b5 b3 h.hu,kk _ _ c4 c2 h.hg,kk _ _ d3 d1 h.hw,k2 _ _ (Ne.symm e2) p1,q2,kk _ _ f1 (Ne.symm e1) h.hv,?_,h.hn.imp fun y hy=>kk _ _ (Ne.symm f) (Ne.symm e3) hy,h.nd,h.off⟩ fun j y hj hy=>kk _ _ hj.2.2.2.2.2.2.1 hj.2.2.2.2.1 hy);have:=h.sy.keep (S:=S2) fun y hy=>kk _ _ (Ne.symm f) (Ne.symm e3) hy;exact⟨this.yes,this.no⟩
theorem c_does1 (h:OnW a p n x t σ)(hI:TwI N t)(hN:N<=800000){o:zuO}(ho:SopI o)(hd:o.do_=1)
  (hK:∀S p' n' x',OnW a p' n' x' (znp t o) S->(∀(j:Nat) (y:AObj),Els a p n j→σ[j]? = some y->S[j]? = some y)->K (.d (.bool true)) S) :
  zP zdD [.box a.w 0,.agg (zvs o)] σ K:=by
 obtain⟨⟨b1,b2,b3,b4,b5,b6⟩,⟨c1,c2,c3,c4,c5⟩,⟨d1,d2,d3,d4⟩,⟨e1,e2,e3⟩,⟨f1,f2⟩,f⟩:=h.ne;have oq:=h.off a.q (by simp);have op:=h.off p (by simp);have on:=h.off n (by simp);have hw':∀τ,(σ++τ)[a.w]? = _:=fun τ=>zi h.hw;have hG:=hI.G;have e0:znp t o=⟨repL t.L t.G t.d o,repG t.L t.G t.d o,takeP (repL t.L t.G t.d o) (repG t.L t.G t.d o) t.d (repT t.L t.G t.d o),repS t.L t.G t.d t.M o⟩:=by rw[znp,if_neg (by omega),if_pos hd]
 rw[e0]at hK;obtain⟨r1,r2,r3⟩:=repL_I (o:=o) hI;have hTm:=repT_small (L:=t.L) (G:=t.G) (d:=t.d) ho.small;have hsy:=hI.says;refine zeP zda.is rfl fun hl _=>zda.goes ?_;obtain⟨l1,l2,l3,l4,l5,l6,l7⟩:=h.lts;simp only[zfW,iN,bT,bF,eN,zl3];obtain⟨B,hB⟩:∃B,AObj.box (zvs o)=B:=⟨_,rfl⟩;have hso:AV.agg (zvs o)=.agg (zvs o):=rfl;unfold zvs at hB ⊢;refine zm (zd (show(o.do_==0)=false by simp;omega) (show(o.do_==1)=true by simpa using hd)) ?_;rw[hB];refine c_reply (h.app _) hI (by omega) ho.small fun S1 hW kp1=>?_;obtain⟨T,hT⟩:∃T,repT t.L t.G t.d o=T:=⟨_,rfl⟩;obtain⟨L1,hL1⟩:∃T,repL t.L t.G t.d o=T:=⟨_,rfl⟩;obtain⟨G1,hG1⟩:∃T,repG t.L t.G t.d o=T:=⟨_,rfl⟩;obtain⟨M1,hM1⟩:∃T,repS t.L t.G t.d t.M o=T:=⟨_,rfl⟩;rw[hT,hL1,hG1,hM1]at hK;rw[hL1]at r1;rw[hG1]at r2;rw[hL1,hG1,hM1]at hW;rw[hT]at hTm ⊢;have sw:∀τ,(S1++τ)[a.w]? = _:=fun τ=>zi hW.hw;have hW2:=hW.app [zlb T];have hsl:t.d.says.length<=1000:=by
  obtain⟨sy,hsy⟩:=hI.says;have:=hsy.len;rw[hsy.perm.length_eq]at this;omega
 have g0:(S1++[zlb T])[S1.length]? = some (zlb T):=by rw[zC];rfl
 obtain⟨w1,w2,w3,w4,w5,w6,w7⟩:=hW.lts;refine zm sw ?_;refine c_pTakeG (m:=T) hW2.tg r1 (Nat.le_trans r2 (by omega)) hW2.hp hI.d (by omega) hW2.sy hTm fun S2 x' hlen hp2 hs2 kp2=>?_;have sw2:=kp2 _ _ d3 d4 hW2.hw;have sT:=kp2 S1.length _ (by omega) (by omega) g0;refine zm (zd sw (zd sw2 (zd sT g0))) ?_;refine c_xTakeG (m:=T) (kp2 _ _ b5 b6 hW2.hu) (kp2 _ _ c4 c5 hW2.hg) r1.len (Nat.le_trans r2 (by omega)) (kp2 _ _ e2 e3 hW2.hq) hTm hsl hI.d (by omega) fun S3 hq3 kp3=>?_;refine gq28 ?_;have kk:∀(j:Nat) (y:AObj),j≠p->j≠n->j≠a.q->S1[j]? = some y->S3[j]? = some y:=fun j y h1 h2 h3 hy=>kp3 _ _ h3 (kp2 _ _ h1 h2 (zi hy));have hx:∃y,S2[n]? = some y:=⟨_,List.getElem?_eq_getElem (by rw[hlen];simp;omega)⟩;refine zld (hK S3 p n x' ⟨hW.tg.keepO fun j y hj hy=>kk _ _ (fun e=>hj (e▸op)) (fun e=>hj (e▸on)) (fun e=>hj (e▸oq)) hy,kk _ _ b5 b6 b3 hW.hu,kk _ _ c4 c5 c2 hW.hg,kk _ _ d3 d4 d1 hW.hw,kp3 _ _ (Ne.symm e2) hp2,hq3,kk _ _ f1 f2 (Ne.symm e1) hW.hv,hs2.keep fun y hy=>kp3 _ _ (Ne.symm e3) hy,hx.imp fun y hy=>kp3 _ _ (Ne.symm e3) hy,h.nd,h.off⟩ fun j y hj hy=>?_);obtain⟨j1,j2,j3,j4,j5,j6,j7,j8⟩:=hj;exact kk _ _ j7 j8 j5 (kp1 _ _ j1 j2 j3 j4 j6 (zi hy))
theorem c_does3 (h:OnW a p n x t σ)(hI:TwI N t)(hN:N<=800000){o:zuO}(ho:SopI o)(hd0:o.do_≠0)(hd1:o.do_≠1)(hd2:o.do_≠2)
  (hK:∀S p' n' x',OnW a p' n' x' (znp t o) S->(∀(j:Nat) (y:AObj),Els a p n j→σ[j]? = some y->S[j]? = some y)->K (.d (.bool true)) S) :
  zP zdD [.box a.w 0,.agg (zvs o)] σ K:=by
 obtain⟨⟨b1,b2,b3,b4,b5,b6⟩,⟨c1,c2,c3,c4,c5⟩,⟨d1,d2,d3,d4⟩,⟨e1,e2,e3⟩,⟨f1,f2⟩,f⟩:=h.ne;have hw':∀τ,(σ++τ)[a.w]? = _:=fun τ=>zi h.hw;have hG:=hI.G;have e0:znp t o=t:=by rw[znp,if_neg hd0,if_neg hd1,if_neg hd2]
 rw[e0]at hK;refine zeP zda.is rfl fun hl _=>zda.goes ?_;obtain⟨l1,l2,l3,l4,l5,l6,l7⟩:=h.lts;simp only[zfW,iN,bT,bF,eN,zl3];obtain⟨B,hB⟩:∃B,AObj.box (zvs o)=B:=⟨_,rfl⟩;have gB:(σ++[B])[σ.length]? = some (.box (zvs o)):=by rw[zC,← hB];rfl
 unfold zvs at gB hB ⊢;refine zm (zd (show(o.do_==0)=false by simpa using hd0) (zd (show(o.do_==1)=false by simpa using hd1) (zd (show(o.do_==2)=false by simpa using hd2) hw'))) ?_;rw[hB];have h1:=h.app [B];refine c_pCloneG h1.hp hI.d h1.sy fun S1 p' n' hp' hs' hpl hnl hnp kp1=>?_;have h2:=h1.keep kp1;have sw1:=h2.hw;refine zm sw1 ?_;refine c_pTickG h2.hp hI.d (by omega) ?_;obtain⟨S2,hS2⟩:∃S,S1.set p (.box (zmm (zfY t.d) a.i.id a.i.id2 x))=S:=⟨_,rfl⟩;have k2:∀(j:Nat) (y:AObj),j≠p->S1[j]? = some y->S2[j]? = some y:=fun j y hj hy=>by rw[← hS2];exact zqZ hy hj
 have p2:S2[p]? = some (.box (zmm (zfY t.d) a.i.id a.i.id2 x)):=by rw[← hS2];exact List.getElem?_set_self (zY h2.hp)
 have sw2:=k2 _ _ d3 h2.hw;have sb1:=kp1 _ _ gB;have sb2:=k2 σ.length _ (by omega) sb1;have op:=h.off p (by simp);have on:=h.off n (by simp);have t2:TG a.i S2 t.L t.G:=h2.tg.keepO fun j y hj hy=>k2 _ _ (fun e=>hj (e▸op)) hy;have sy2:SyAt S2 (zfY t.d) x n:=by
  have:=h2.sy.keep (S:=S2) fun y hy=>k2 _ _ (Ne.symm f) hy;exact⟨this.yes,this.no⟩
 rw[hS2];refine zm (zd sw2 sb2) ?_;refine c_pTakeG (d:=zfY t.d) (m:=o.m) t2 hI.L (by omega) p2 (tick_I hI.d) (by omega) sy2 ho.small fun S3 x3 hlen hp3 hs3 kp3=>?_;have kk:∀(j:Nat) (y:AObj),j≠p->j≠n->S1[j]? = some y->S3[j]? = some y:=fun j y h1 h2 hy=>kp3 _ _ h1 h2 (k2 _ _ h1 hy);have sw3:=kk _ _ d3 d4 h2.hw;have hpl':σ.length+1<=p':=by simpa using hpl
 have hnl':σ.length+1<=n':=by simpa using hnl
 obtain⟨nd,off⟩:=h.nd2 (p':=p') (n':=n') (.inr (by omega)) (.inr (by omega)) hnp (.inl (by omega));have hpn:p'≠n:=by omega
 have hpp:p'≠p:=by omega
 have hex:∃y,S1[n']? = some y:=by
  cases hw:t.d.waits with
  | true=>obtain⟨_,sy,h3,_⟩:=hs'.yes hw;exact⟨_,h3⟩
  | false=>
   rcases hs'.no hw with h3|h3
   ·cases h3
   ·exact⟨_,h3.2⟩
 have hO:=h2.other (S:=S3) kk (kk _ _ hpp hpn hp') (hs'.keep fun y hy=>kk _ _ (by omega) (by omega) hy) (hex.imp fun y hy=>kk _ _ (by omega) (by omega) hy) nd off;refine zm sw3 ?_;refine zld (hK _ p' n' (.map n') hO fun j y hj hy=>?_);obtain⟨j1,j2,j3,j4,j5,j6,j7,j8⟩:=hj;exact zqZ (kk _ _ j7 j8 (kp1 _ _ (zi hy))) j4
theorem c_does (h:OnW a p n x t σ)(hI:TwI N t)(hN:N<=800000){o:zuO}(ho:SopI o)
  (hK:∀S p' n' x',OnW a p' n' x' (znp t o) S->(∀(j:Nat) (y:AObj),Els a p n j→σ[j]? = some y->S[j]? = some y)->K (.d (.bool true)) S) :
  zP zdD [.box a.w 0,.agg (zvs o)] σ K:=by
 by_cases h0:o.do_=0
 ·exact c_does0 h hI (by omega) ho h0 hK
 by_cases h1:o.do_=1
 ·exact c_does1 h hI hN ho h1 hK
 by_cases h2:o.do_=2
 ·exact c_does2 h hI (by omega) ho h2 hK
 exact c_does3 h hI hN ho h0 h1 h2 hK
end
def zjl (f cl:Int):Int:=if zhg f≠0 then zhg f else if cl<0∨cl≥8 then 1 else 0
def newD (f cl:Int):zib:=⟨f,cl,0,false,zsL,[],0,zsL,0,0,0⟩
section
variable {σ:List AObj} {K:KT}
theorem c_pNewE {i:TGi}{f cl:Int}{L:List (List UInt8)}{G:List zI}(h:TG i σ L G)(hL:zmF L)(hg:G.length<=1073741824)(he:zjl f cl≠0)(hK:K (.tup [.d .nilp,.d (.int .i64 (zjl f cl))]) σ) :
  zP zfI [.d (.int .i64 f),.d (.int .i64 cl),.box i.id 0,.box i.id2 0] σ K:=by
 refine acE4 zkF fun hl=>?_;have fin:∀z,zjl f cl=z->K (.tup [.d .nilp,.d (.int .i64 z)]) σ:=fun z h=>h▸hK;clear hK;simp only[zkO,iN,bT,bF,eN];refine zG ?_;refine zvb h.tab hL.nd hL.len hL.each ?_;refine zG ?_;refine zAB (h.led.app _) hg fun g'=>?_;refine zG ?_;refine zwL ?_;cases h1:(zhg f != 0);rotate_left
 ·refine zm h1 ?_;refine zu hl ?_;exact fin _ (by rw[zjl,if_pos (by simpa using h1)])
 cases h2:decide (cl<0);rotate_left
 ·refine zm (zd h1 h2) ?_;refine zu hl ?_;exact fin _ (by rw[zjl,if_neg (by simpa using h1),if_pos (.inl (by simpa using h2))])
 cases h3:decide (cl≥8);rotate_left
 ·refine zm (zd h1 (zd h2 h3)) ?_;refine zu hl ?_;exact fin _ (by rw[zjl,if_neg (by simpa using h1),if_pos (.inr (by simpa using h3))])
 exfalso;simp at h1 h2 h3;exact he (by rw[zjl,if_neg (by simpa using h1),if_neg (by omega)])
theorem c_xNewE {f cl:Int}{a b:AV}(he:zjl f cl≠0)(hK:K (.tup [.d .nilp,.d (.int .i64 (zjl f cl))]) σ) :
  zP zrT [.d (.int .i64 f),.d (.int .i64 cl),a,b] σ K:=by
 refine acE4 zwo fun hl=>?_;have fin:∀z,zjl f cl=z->K (.tup [.d .nilp,.d (.int .i64 z)]) σ:=fun z h=>h▸hK;clear hK;simp only[zxd,iN,bT,bF,eN];refine zG ?_;refine zso ?_;cases h1:(zhg f != 0);rotate_left
 ·refine zm h1 ?_;refine zu hl ?_;exact fin _ (by rw[zjl,if_pos (by simpa using h1)])
 cases h2:decide (cl<0);rotate_left
 ·refine zm (zd h1 h2) ?_;refine zu hl ?_;exact fin _ (by rw[zjl,if_neg (by simpa using h1),if_pos (.inl (by simpa using h2))])
 cases h3:decide (cl≥8);rotate_left
 ·refine zm (zd h1 (zd h2 h3)) ?_;refine zu hl ?_;exact fin _ (by rw[zjl,if_neg (by simpa using h1),if_pos (.inr (by simpa using h3))])
 exfalso;simp at h1 h2 h3;exact he (by rw[zjl,if_neg (by simpa using h1),if_neg (by omega)])
theorem c_xNew {f cl:Int}{u g:Nat}(he:zjl f cl=0)(hK:K (.tup [.box σ.length 0,.d (.int .i64 0)]) (σ++[.box (zlJ (newD f cl) u g (.d (.slice [])))])) :
  zP zrT [.d (.int .i64 f),.d (.int .i64 cl),.box u 0,.box g 0] σ K:=by
 have h1:zhg f=0:=by
  unfold zjl at he;split at he
  ·rename_i hh;exact absurd he hh
  ·rename_i hh;simpa using hh
 have h2:¬(cl<0∨cl≥8):=fun hc=>by rw[zjl,if_neg (by simpa using h1),if_pos hc]at he;cases he
 refine ACall.weaken ?_;refine zeP zwo.is rfl fun hl _=>zwo.goes ?_;simp only[zxd,iN,bT,bF,eN];refine zG ?_;refine zso ?_;rw[h1];refine zm (zd (show((0:Int) != 0)=false from rfl) (zd (show decide (cl<0)=false by simp;omega) (show decide (cl≥8)=false by simp;omega))) ?_;refine zld ⟨_,σ++[.box (zlJ (newD f cl) u g (.d (.slice [])))],?_,hK⟩;refine .dataB σ.length 12 _ (.exact []) [] (by rw[zC];rfl) rfl rfl ?_;rw[zad];refine .dataB σ.length 15 _ (.exact []) [] (by rw[zC];rfl) rfl rfl ?_;rw[zad];refine .dataB σ.length 23 _ (.exact []) [] (by rw[zC];rfl) rfl rfl ?_;rw[zad];exact .refl _ _
theorem c_made24 {f cl:Int}
  (hbad:zjl f cl≠0->∀S w x1 x2 x3 x4 x5,S[w]? = some (.box [x1,x2,.d .nilp,x3,x4,.d .nilp,x5])->K (.tup [.box w 0,.d (.bool true)]) S)
  (hok:zjl f cl=0->∀S (a:TPl) p n x,OnW a p n x ⟨[],[],newD f cl,[]⟩ S->K (.tup [.box a.w 0,.d (.bool true)]) S) :
  zP ztb [.d (.int .i64 f),.d (.int .i64 cl)] σ K:=by
 refine zeP zyJ.is rfl fun hl _=>zyJ.goes ?_;simp only[zzu,iN,bT,bF,eN];refine zG ?_;refine ztF ?_;refine zG ?_;refine znv ?_;refine zG ?_;obtain⟨i,hi⟩:∃i:TGi,(⟨σ.length+1,σ.length,σ.length+2,σ.length+4,σ.length+3,σ.length+5⟩:TGi)=i:=⟨_,rfl⟩;have i1:σ.length+1=i.id:=by rw[← hi]
 have i2:σ.length+4=i.id2:=by rw[← hi]
 have out:∀j,σ.length+6<=j->Off i j:=fun j hj=>by rw[← hi];simp only[Off];omega
 by_cases he:zjl f cl=0;rotate_left
 ·obtain⟨S0,hS0⟩:∃S0,σ++[AObj.map (tabM []),AObj.box [AV.own (σ.length+2) [],AV.map σ.length],AObj.tok 1 0,AObj.map (zxB []),AObj.box [AV.own (σ.length+5) [],AV.map (σ.length+3)],AObj.tok 2 0,AObj.box [AV.exact []],AObj.box [AV.exact []],
    AObj.box [.box (σ.length+1) 0,.box (σ.length+4) 0,.d .nilp,.box (σ.length+6) 0,.box (σ.length+7) 0,.d .nilp,.exact []]]=S0:=⟨_,rfl⟩
  have hT:TG i S0 [] []:=by
   rw[← hS0,← hi];exact⟨⟨by rw[zA];rfl,by rw[zC];rfl,by rw[zA];rfl⟩,⟨by rw[zA];rfl,by rw[zA];rfl,by rw[zA];rfl⟩,by simp,by simp⟩
  have sw:S0[σ.length+8]? = some (AObj.box [.box (σ.length+1) 0,.box (σ.length+4) 0,.d .nilp,.box (σ.length+6) 0,.box (σ.length+7) 0,.d .nilp,.exact []]):=by rw[← hS0,zA];rfl
  have zw:∀Z,(S0.set (σ.length+8) Z)[σ.length+8]? = some Z:=fun Z=>List.getElem?_set_self (zY sw);rw[hS0];rw[i1,i2]at sw ⊢;refine c_pNewE hT zmF.nil (by simp) he ?_;refine zm sw ?_;refine c_xNewE he ?_;refine zkZ (zd sw (zd zw (zd @List.set_set.{0} (show(true==true)=true from rfl)))) ?_;exact zld (hbad he _ _ _ _ _ _ _ (zw _))
 have hf:zhg f=0:=by
  unfold zjl at he;split at he
  ·rename_i hh;exact absurd he hh
  ·rename_i hh;simpa using hh
 have hc:¬(cl<0∨cl≥8):=fun hc=>by rw[zjl,if_neg (by simpa using hf),if_pos hc]at he;cases he
 obtain⟨S0,hS0⟩:∃S0,σ++[AObj.map (tabM []),AObj.box [AV.own (σ.length+2) [],AV.map σ.length],AObj.tok 1 0,AObj.map (zxB []),AObj.box [AV.own (σ.length+5) [],AV.map (σ.length+3)],AObj.tok 2 0,rtO [],rlO [],
    AObj.box [.box (σ.length+1) 0,.box (σ.length+4) 0,.d .nilp,.box (σ.length+6) 0,.box (σ.length+7) 0,.d .nilp,.own (σ.length+10) []],AObj.tok 1 0,AObj.tok 30 0]=S0:=⟨_,rfl⟩
 refine ACall.pre (xs':=[.d (.int .i64 f),.d (.int .i64 cl),.box (σ.length+1) 0,.box (σ.length+4) 0]) (σ':=S0) ?_ ?_
 ·refine .tokB (σ.length+6) 0 [.exact []] [] 1 (by rw[zA];rfl) rfl (by simp) ?_;rw[zZ];refine .dataB (σ.length+6) 0 [.own (σ.length+9) []] (.own (σ.length+9) []) [] (by rw[List.append_assoc,zA];simp) rfl rfl ?_;rw[List.append_assoc,zZ];refine .dataB (σ.length+7) 0 [.exact []] (.exact []) [] (by rw[zA];simp) rfl rfl ?_;rw[zZ];refine .tokB (σ.length+8) 6 [.box (σ.length+1) 0,.box (σ.length+4) 0,.d .nilp,.box (σ.length+6) 0,.box (σ.length+7) 0,.d .nilp,.exact []] [] 30 (by rw[zA];simp) rfl (by simp) ?_;rw[zZ,← hS0];simp;exact .refl _ _
 have hT:TG i S0 [] []:=by
  rw[← hS0,← hi];exact⟨⟨by rw[zA];rfl,by rw[zC];rfl,by rw[zA];rfl⟩,⟨by rw[zA];rfl,by rw[zA];rfl,by rw[zA];rfl⟩,by simp,by simp⟩
 have l0:S0.length=σ.length+11:=by rw[← hS0];simp
 have c6:S0[σ.length+6]? = some (rtO []):=by rw[← hS0,zA];rfl
 have c7:S0[σ.length+7]? = some (rlO []):=by rw[← hS0,zA];rfl
 have c8:S0[σ.length+8]? = some (AObj.box [.box (σ.length+1) 0,.box (σ.length+4) 0,.d .nilp,.box (σ.length+6) 0,.box (σ.length+7) 0,.d .nilp,.own (σ.length+10) []]):=by rw[← hS0,zA];rfl
 have c9:S0[σ.length+9]? = some (AObj.tok 1 0):=by rw[← hS0,zA];rfl
 have c10:S0[σ.length+10]? = some (AObj.tok 30 0):=by rw[← hS0,zA];rfl
 clear hS0;rw[i1,i2]at c8 ⊢;refine c_pNew (f:=f) (cl:=cl) hT zmF.nil (by simp) hf (by omega) (by omega) fun S1 q hq1 hq2 o1=>?_;rw[l0]at hq1;have ql:=zY hq2;have w1:=o1 _ _ c8;have w1l:=zY w1;have sw:∀τ,(S1++τ)[σ.length+8]? = _:=fun τ=>zi w1;have s1:∀τ Z,(S1++τ).set (σ.length+8) Z=S1.set (σ.length+8) Z++τ:=fun τ Z=>List.set_append_left _ _ w1l;have s2:∀τ Y Z,(S1.set (σ.length+8) Y++τ).set (σ.length+8) Z=S1.set (σ.length+8) Z++τ:=fun τ Y Z=>by rw[List.set_append_left _ _ (by simpa using w1l),List.set_set]
 have zw:∀Z τ,(S1.set (σ.length+8) Z++τ)[σ.length+8]? = some Z:=fun Z τ=>zi (List.getElem?_set_self w1l);refine zm w1 ?_;refine c_xNew he ?_;refine zkZ (zd sw (zd s1 (zd s2 (zd zw (show(false==false)=true from rfl))))) ?_;obtain⟨a,ha⟩:∃a:TPl,(⟨i,σ.length+6,σ.length+7,σ.length+8,S1.length,σ.length+10⟩:TPl)=a:=⟨_,rfl⟩;have aw:σ.length+8=a.w:=by rw[← ha]
 have kk:∀(j:Nat) (y:AObj),j≠σ.length+8->S1[j]? = some y->∀τ Z,(S1.set (σ.length+8) Z++τ)[j]? = some y:=fun j y hj hy τ Z=>zi (zqZ hy hj);have:=hok he (S1.set (σ.length+8) (.box (twinL a q []))++[.box (zlJ (newD f cl) (σ.length+6) (σ.length+7) (.d (.slice [])))]) a q (σ.length+9) (.d .nilmap) ?_
 ·rw[← ha]at this;exact zld this
 ·rw[← ha];refine⟨(hT.keep o1).keepO fun j y hj hy=>kk _ _ (fun e=>hj (by rw[e];exact out _ (by omega))) hy _ _,kk _ _ (by simp) (o1 _ _ c6) _ _,kk _ _ (by simp) (o1 _ _ c7) _ _,zw _ _,kk _ _ (by omega) hq2 _ _,?_,kk _ _ (by simp) (o1 _ _ c10) _ _,⟨fun h=>(by cases h),fun _=>.inl rfl⟩,⟨_,kk _ _ (by simp) (o1 _ _ c9) _ _⟩,?_,?_⟩
  ·have:=zC (S1.set (σ.length+8) (AObj.box (twinL ⟨i,σ.length+6,σ.length+7,σ.length+8,S1.length,σ.length+10⟩ q []))) [.box (zlJ (newD f cl) (σ.length+6) (σ.length+7) (.d (.slice [])))];rw[List.length_set]at this;exact this
  ·simp;omega
  ·intro j hj;refine out j ?_;simp at hj;omega
end
theorem list_asR {α:Type}{f:α->List D}{R:α->Prop}:∀ {l:List (List D)},(∀e∈l,∃a,e=f a/\R a)->∃as_:List α,l=as_.map f/\∀a∈as_,R a
 | [],_=>⟨[],rfl,by simp⟩
 | e::l,h=>by
  obtain⟨a,rfl,ha⟩:=h e List.mem_cons_self;obtain⟨m,rfl,hm⟩:=list_asR (l:=l) fun x hx=>h x (List.mem_cons_of_mem _ hx);exact⟨a::m,rfl,fun x hx=>by
   rcases List.mem_cons.1 hx with rfl|hx
   ·exact ha
   ·exact hm x hx⟩
theorem bulkLL_in:∀ {l:List (List D)} {e:List D},e∈l->zcR e<=zds l
 | b::l,e,h=>by
  simp only[zds];rcases List.mem_cons.1 h with rfl|h
  ·omega
  ·have:=bulkLL_in h;omega
theorem bulk_sops:∀l:List zuO,2*l.length<=zds (l.map sopD)
 | []=>by simp
 | o::l=>by
  have:=bulk_sops l;have h2:2<=zcR (sopD o):=by simp only[sopD,opD,List.cons_append,zcR,zfT];omega
  simp only[List.map_cons,List.length_cons,zds];omega
theorem dec_sops {d:D}(h:zlU (.slice tySop) d)(hb:zfT d<=1048576):∃l:List zuO,d=.slice (l.map sopD)/\l.length<=600000/\∀o∈l,SopI o:=by
 cases h with
 | slice _ es h1 h2 h3=>
  simp only[zfT]at hb
  obtain⟨l,rfl,hl⟩:=list_asR (f:=sopD) (R:=SopI) (l:=es) fun e he=>by
   have:=bulkLL_in he;obtain⟨o,rfl,_,_,_,h4,h5⟩:=dec_sop ⟨h2 e he,h3 e he⟩ (by omega);have h6:=opSz_bulk o.op;refine⟨o,rfl,?_,by omega,h5⟩;simp only[opD,zcR,zfT]at h4;have h7:=zqr o.op.recs;exact⟨by omega,by omega,by omega,fun r hr=>by have:=h7.2 r hr;omega⟩
  have:=bulk_sops l
  exact⟨l,rfl,by omega,hl⟩
theorem newPE_0 {f cl:Int}(he:zjl f cl=0):1<=f/\f<=4:=by
 unfold zjl at he;split at he
 ·rename_i hh;exact absurd he hh
 ·rename_i hh;unfold zhg at hh;split at hh
  ·exact absurd (by decide:(120:Int)≠0) hh
  ·omega
theorem newD_I {f cl:Int}(he:zjl f cl=0):TwI 0 ⟨[],[],newD f cl,[]⟩:=
 ⟨⟨newPE_0 he,by simp[newD],by simp[newD],by simp[newD],fun _=>⟨rfl,rfl,rfl⟩,by simp[newD],by simp[newD]⟩,⟨by simp[newD],by simp[newD],by simp[newD],by simp[newD]⟩,⟨[],.nil⟩,zmF.nil,by simp,by simp⟩
structure zAJ (last:Int) (d:zib):Prop where
 le:last<=d.time
 lt:d.waits=true->last<d.time
 s:d.waits=true->d.s.time=d.time
structure StepO (last:Int) (d e:zib):Prop where
 t1:d.time<=e.time
 t2:e.time<=d.time+1
 m1:d.many<=e.many
 m2:e.many<=d.many+1
 more:e.many>d.many->d.waits=true/\e.waits=false/\e.ls.time=d.time/\last<e.ls.time/\zAJ e.ls.time e
 same:¬e.many>d.many->zAJ last e
theorem StepO.rfl {last:Int}{d e:zib}(h:zAJ last d)(h1:e.time=d.time)(h2:e.many=d.many)(h3:e.waits=d.waits)(h4:e.s=d.s):StepO last d e:=
 ⟨by omega,by omega,by omega,by omega,fun h=>by omega,fun _=>⟨by rw[h1];exact h.le,fun hw=>by rw[h1];exact h.lt (by rw[← h3];exact hw),fun hw=>by rw[h4,h1];exact h.s (by rw[← h3];exact hw)⟩⟩
theorem once_ask {last:Int}{d:zib}(L:List (List UInt8))(o:TOp)(h:zAJ last d):StepO last d (zrx L d o)/\(d.waits=true->(zrx L d o).time=d.time):=by
 by_cases he:zwY L d o=0
 ·have e:zrx L d o={ d with time:=d.time+1,waits:=true,s:=zeT L (zxC d o),says:=[],ticks:=0 }:=by rw[zrx,if_neg (by simpa using he)]
  have hw:¬d.waits=true:=fun hw=>by rw[zwY,if_pos hw]at he;cases he
  have hs:zjM L (zxC d o)=0:=by
   unfold zwY at he;split at he
   ·cases he
   ·split at he
    ·rename_i hh;exact absurd he hh
    ·exact he
  have ht:(zeT L (zxC d o)).time=d.time+1:=by rw[zeT,if_pos hs];rfl
  have hle:=h.le;rw[e];exact⟨⟨by simp only;omega,by simp only;omega,by simp only;omega,by simp only;omega,fun hm=>by simp only at hm;omega,fun _=>⟨by simp only;omega,fun _=>by simp only;omega,fun _=>ht⟩⟩,fun h=>absurd h hw⟩
 ·have e:zrx L d o=d:=by rw[zrx,if_pos he]
  rw[e];exact⟨.rfl h rfl rfl rfl rfl,fun _=>rfl⟩
theorem once_take {last:Int}{d:zib}(L:List (List UInt8))(G:List zI)(m:zbD)(h:zAJ last d):StepO last d (takeP L G d m):=by
 by_cases ho:zhb L G d m=true;rotate_left
 ·have e:takeP L G d m=d:=by rw[takeP,if_neg ho]
  rw[e];exact .rfl h rfl rfl rfl rfl
 have hc:=ho;simp only[zhb,Bool.and_eq_true,decide_eq_true_eq]at hc;obtain⟨hw,_⟩:=hc;have hlt:=h.lt hw;have hs:=h.s hw;by_cases hB:zuv d m=true
 ·have e:takeP L G d m={ d with says:=sayD d.says m.src m.rerr m.roff,waits:=false,ls:=d.s,la:=m.rerr,lo:=m.roff,many:=d.many+1 }:=by rw[takeP,if_pos ho,if_pos hB]
  rw[e];exact⟨by simp only;omega,by simp only;omega,by simp only;omega,by simp only;omega,fun _=>⟨hw,rfl,hs,by simp only;omega,⟨by simp only;omega,fun h=>(by cases h),fun h=>(by cases h)⟩⟩,fun hm=>absurd (by simp only;omega) hm⟩
 ·have e:takeP L G d m={ d with says:=sayD d.says m.src m.rerr m.roff }:=by rw[takeP,if_pos ho,if_neg hB]
  rw[e];exact .rfl h rfl rfl rfl rfl
theorem once_does {last:Int}{t:TTw}(o:zuO)(h:zAJ last t.d):StepO last t.d (znp t o).d/\(o.do_=0->t.d.waits=true->(znp t o).d.time=t.d.time):=by
 unfold znp;split
 ·have:=once_ask t.L o.op h;exact⟨this.1,fun _=>this.2⟩
 ·rename_i h0;split
  ·exact⟨once_take _ _ _ h,fun e=>absurd e h0⟩
  ·split
   ·exact⟨.rfl h rfl rfl rfl rfl,fun e=>absurd e h0⟩
   ·exact⟨.rfl h rfl rfl rfl rfl,fun e=>absurd e h0⟩
def zlj:List (Bool × List Ty):=[(false,[.int .i64]),(false,[.int .i64]),(false,[.slice tySop])]
theorem zth (xs:List AV)(n:Nat)(hn:n<=1048576)(h:ArgsOk zlj xs n):zP zgX xs [] fun r _=>r=.d (.bool true):=by
 obtain⟨ds,xs1,m1,hf1,hb1,rfl,ds,xs2,m2,hf2,hb2,rfl,ds,xs3,m3,hf3,hb3,rfl,rfl⟩:=h;obtain⟨d,rfl,h1⟩:=one_of hf1;obtain⟨f,rfl,_⟩:=zaB h1;obtain⟨d,rfl,h2⟩:=one_of hf2;obtain⟨cl,rfl,_⟩:=zaB h2;obtain⟨d,rfl,h3⟩:=one_of hf3;obtain⟨l,rfl,hl0,hl1⟩:=dec_sops h3 (by simp only[zcR]at hb3;omega);show zP zgX [.d (.int .i64 f),.d (.int .i64 cl),.d (.slice (l.map sopD))] [] _;clear hf1 hf2 hf3 hb1 hb2 hb3 h1 h2 h3;obtain⟨σ,hσ⟩:∃σ:List AObj,([]:List AObj)=σ:=⟨_,rfl⟩;have hσ0:∀S:List AObj,S.take σ.length=σ:=fun S=>by rw[← hσ];simp
 rw[hσ];refine acE3 zrm fun hl=>?_;have fin:∀S,AW.Ends σ.length (fun r _=>r=.d (.bool true)) (some [.d (.bool true)]) S:=fun S=>ztq (hσ0 S) (by simp[zha,dmT,dm,dm1,zcm]) hl rfl;clear hσ;have hll:(l.map sopD).length=l.length:=List.length_map ..;simp only[zkV,iN,bT,bF,eN,zl0,zl1];refine zG ?_;refine c_made24 (fun he S w x1 x2 x3 x4 x5 hw=>?_) fun he S a p m x hO=>?_
 ·refine zm hw ?_;refine c_begun24 ?_;refine zm (zd hw (show(false==false)=true from rfl)) ?_;exact fin _
 have hw0:=hO.hw;refine zm hw0 ?_;refine c_begun24 ?_;refine zm (zd hw0 (zd (show(false==false)=true from rfl) hll)) ?_;refine zn l.length (fun k vs S=>∃last p m x t,vs=[.d (.int .i64 last),.d (.int .i64 k)]/\OnW a p m x t S/\TwI k t/\zAJ last t.d) ⟨0,p,m,x,_,rfl,hO,newD_I he,⟨by simp[newD],fun h=>(by cases h),fun h=>(by cases h)⟩⟩ ?_;clear hO hw0;rintro k vs S hk ⟨last,p,m,x,t,rfl,hO,hI,hT⟩;by_cases hlt:k<l.length
 ·have hd:decide ((k:Int)<(l.length:Int))=true:=by simp;omega
  have hx:l[k]? = some l[k]:=by simp[hlt]
  have hox:=hl1 _ (List.getElem_mem hlt);have hgx:=zQ (f:=sopD) hx;obtain⟨o,ho⟩:∃o,l[k]=o:=⟨_,rfl⟩;rw[ho]at hx hgx hox;have fw0:∀τ,(S++τ)[a.w]? = _:=fun τ=>zi hO.hw;have fp:∀τ,(S++τ)[p]? = _:=fun τ=>zi hO.hp;obtain⟨ws,hws⟩:∃ws:zp,(if t.d.waits=true then t.d.s else zsL)=ws:=⟨_,rfl⟩;refine zdy (zd hd (zd hgx (zd hll fw0))) ?_;refine zwO (fp _) ?_;refine zm fw0 ?_;refine zwN (fp _) ?_;refine zm fw0 ?_;refine c_pWaitsG (fp _) hI.d ?_;rw[hws];refine zdy fw0 ?_;have gB:∀τ,(S++AObj.box (zvs o)::τ)[S.length]? = some (.box (zvs o)):=fun τ=>by rw[zC];rfl
  refine c_does (o:=o) (hO.app _) hI (by omega) hox fun S2 p2 m2 x2 hO2 kp=>?_;have fb0:=kp S.length _ (els_new hO (by omega)) (gB _);have hI2:=hI.does hox;obtain⟨hst,hs0⟩:=once_does o hT;obtain⟨t2,ht2⟩:∃t2,znp t o=t2:=⟨_,rfl⟩;rw[ht2]at hO2 hI2 hst hs0;have fin2:∀last',zAJ last' t2.d->∀τ,zaK l.length (fun k vs S=>∃last p m x t,vs=[.d (.int .i64 last),.d (.int .i64 k)]/\OnW a p m x t S/\TwI k t/\zAJ last t.d) k [.d (.int .i64 last'),.d (.int .i64 (k+1:Nat))] (S2++τ):=fun last' hl' τ=>zaK.next hlt ⟨last',p2,m2,x2,t2,rfl,hO2.app _,hI2,hl'⟩;unfold zvs at fb0;have fb:∀τ,(S2++τ)[S.length]? = _:=fun τ=>zi fb0;have g0:=hO2.hw;have g:∀τ,(S2++τ)[a.w]? = _:=fun τ=>zi g0;have hp2:∀τ,(S2++τ)[p2]? = _:=fun τ=>zi hO2.hp;have i1:=hI.d.time;have i2:=hI.d.many;obtain⟨q1,q2,q3,q4,q5,q6⟩:=hst;have r1:decide (t2.d.time<t.d.time)=false:=by simp;omega
  have r2:IntKind.i64.wrap (t2.d.time-t.d.time)=t2.d.time-t.d.time:=zaQ (by omega) (by omega);have r3:decide (t2.d.time-t.d.time>1)=false:=by simp;omega
  have r4:decide (t2.d.many<t.d.many)=false:=by simp;omega
  have r5:IntKind.i64.wrap (t2.d.many-t.d.many)=t2.d.many-t.d.many:=zaQ (by omega) (by omega);have r6:decide (t2.d.many-t.d.many>1)=false:=by simp;omega
  obtain⟨ws2,hws2⟩:∃ws:zp,(if t2.d.waits=true then t2.d.s else zsL)=ws:=⟨_,rfl⟩;clear kp gB;refine zm g0 ?_;refine c_pWaitsG hO2.hp hI2.d ?_;rw[hws2];refine zdy (zd g0 g) ?_;refine c_pLastG (hp2 _) hI2.d ?_;cases hd0:(o.do_==0);rotate_left;cases hw:t.d.waits;rotate_left;refine zm (zd g (zd fb hd0)) ?_;refine zwN (hp2 _) ?_;refine zm (zd g (show(t2.d.time != t.d.time)=false by simp;exact hs0 (by simpa using hd0) hw)) ?_;all_goals
   try refine zm (zd g (zd fb hd0)) ?_
   refine zwN (hp2 _) ?_
   refine zm (zd r1 g) ?_
   refine zwN (hp2 _) ?_
   refine zm (zd r2 (zd r3 g)) ?_
   refine zwO (hp2 _) ?_
   refine zm (zd r4 g) ?_
   refine zwO (hp2 _) ?_
   refine zm (zd r5 (zd r6 g)) ?_
   refine zwO (hp2 _) ?_
   cases hm:decide (t2.d.many>t.d.many)
   ·refine zm (zd hm (wkc k (by omega))) ?_
    exact fin2 last (q6 (by simpa using hm)) _
   ·obtain⟨w1,w2,w3,w4,w5⟩:=q5 (by simpa using hm)
    first
     | (rw[w1]at hw;cases hw;done)
     | (
      refine zm (zd hm (zd w1 (zd w2 (zd (show decide (t2.d.many>0)=true by simp at hm;simp;omega) (zd (show(t2.d.ls.time != t.d.time)=false by simpa using w3) (zd (show decide (t2.d.ls.time<=last)=false by simp;omega) (wkc k (by omega)))))))) ?_
      exact fin2 _ w5 _)
 ·have hd:decide ((k:Int)<(l.length:Int))=false:=by simp;omega
  refine zm hd ?_;exact fin _
open Go.AW Go.ChangeShapes Go.WideShapes Go.ChangeAt Go.RowKit
theorem zqM {H:Type}{enc:TypeId × Value->H}{P:Program}{w:World}{sp:Nat->Bool}{held:Bool}{vs:List Value}{ds gs:List (DataW H)}{ps:List MemPlace}{ts:List TypeId}(hl:ts.length=3)
  (h:DataW.TrodAll enc P w 0 sp held ts vs ds ps) (hg:gs=[]):(Rows.publisherOnceSpec).fn H (ds++gs)={ results:=[.lit (.bool true)],args:=ds }:=by
 subst hg;have hd:ds.length=3:=by
  have:∀(ts:List TypeId) (vs:List Value) (ds:List (DataW H)) (ps:List MemPlace),DataW.TrodAll enc P w 0 sp held ts vs ds ps->ds.length=ts.length:=by
   intro ts;induction ts with
   | nil=>intro vs ds ps h;cases vs<;>cases ds<;>simp[DataW.TrodAll]at h ⊢
   | cons t ts ih=>
    intro vs ds ps h
    obtain⟨v,vs',d,ds',p,q,rfl,rfl,rfl,h1,h2⟩:=trodAll_cons h
    simp[ih vs' ds' q h2]
  rw[this ts vs ds ps h,hl]
 rw[List.append_nil];match ds,hd with
 | [_,_,_],_=>rfl
theorem zpQ (os:Os)(started:os.Started)(H:Type)(enc:TypeId × Value->H)(F:Stop.Interp) :
  ReturnsInHanded {} Tryz.checked os 4 .any ((Rows.OpenSpec.upto Rows.publisherOnceSpec).pre6 enc Tryz.prog Tryz.f4 Rows.publisherOnceUptoRow.domain false) (((Rows.OpenSpec.upto Rows.publisherOnceSpec).at F).post enc Tryz.prog Tryz.f4 false true false false):=by
 refine returnsInHanded_of_cond (C:=Tryz.checked) (s:=Rows.OpenSpec.upto Rows.publisherOnceSpec) (k:=Rows.uptoSmall) rfl own started (by kernel_rfl) Tryz.func4
  (OpenSpec.witness (enc:=enc) (C:=Tryz.checked) (s:=Rows.OpenSpec.upto Rows.publisherOnceSpec) (k:=Rows.uptoSmall) rfl false ⟨#[],#[(.int .i64 0),(.int .i64 0),(.slice none 0 0)],[]⟩ 24 (by kernel_rfl) (by kernel_rfl) (by kernel_rfl)
   (x:=([(.lit (.int .i64 0)),(.lit (.int .i64 0)),.nil],[],[])) (by kernel_rfl) rfl (by kernel_rfl)) ?_
 intro W base args ds gs before hval hW _ hk _;have hW0:DataW.Whole enc Tryz.prog Tryz.f4.params.toList (Rows.publisherOnceSpec).vars false W args.toList ds gs before:=hW;have hg:gs=[]:=by
  obtain⟨p,q,hA,hV,_⟩:=hW0;cases gs with
  | nil=>rfl
  | cons=>simp[Rows.publisherOnceSpec,DataW.TrodVars]at hV
 refine law_calls isBulk hval hW0 (pars:=zlj) (by kernel_rfl) rfl (by obtain⟨p,q,hA,_⟩:=hW0;exact zqM (by kernel_rfl) hA hg) laidOut mapsLaid slicesFull (by kernel_rfl) (tb:=4) (by kernel_rfl) (by kernel_rfl) fun xs has=>zth xs _ ?_ has;have:=small hk;rw[hg,List.append_nil]at this;exact this
theorem publisherOnce_upto:Rows.PublisherOnceUptoSaid:=
 OpenClaim.holds_of_cond 4 Tryz.f4 rfl rfl rfl rfl rfl rfl rfl ⟨rfl,rfl,rfl,rfl,rfl⟩ rfl rfl rfl rfl rfl (by kernel_rfl) Tryz.func4 (by unfold joinedFacts;rw[any_loops,any_loops]<;>kernel_rfl)
  (of_decide_eq_true (by kernel_rfl)) (by unfold Func.isWrapper;first|(rw[if_pos (by decide +kernel)];kernel_rfl)|(rw[if_neg (by decide +kernel)];exact⟨rfl,rfl⟩))
  (fun os started H enc _ F=>zpQ os started H enc F)
end Go.Proofs.YtdgcepphjnoalaaGreat
