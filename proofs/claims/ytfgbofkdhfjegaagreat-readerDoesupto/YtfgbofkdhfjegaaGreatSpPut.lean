/- The bytes of view-changes and new views, and how many they are at most. No program in sight. -/
import Derived.Test.YtfgbofkdhfjegaaGreatBt3
import Derived.Test.YtfgbofkdhfjegaaGreatSpUtf
import Derived.Test.YtfgbofkdhfjegaaGreatRq2
import Derived.Test.YtfgbofkdhfjegaaGreatCk3
import Derived.Test.YtfgbofkdhfjegaaGreatCk4
import Derived.Test.YtfgbofkdhfjegaaGreatOpC
import Derived.Test.YtfgbofkdhfjegaaGreatKr3
import Derived.Test.YtfgbofkdhfjegaaGreatRe1
import Derived.Test.YtfgbofkdhfjegaaGreatMk3
set_option linter.all false
namespace Go.AW
structure prepOkE (p:zoQ):Prop where
 view:0<=p.view/\p.view<=9007199254740992
 seq:1<=p.seq/\p.seq<=9007199254740992
 dig:1<=p.dig/\p.dig<=9007199254740992
 first:zah p.fkey p.fdig=0
 signs:∀ e∈zfo p.signs,e=0
 batch:zad p.batch=0
structure bodyOkE (c:zfK):Prop where
 view:1<=c.view/\c.view<=9007199254740992
 src:0<=c.src/\c.src<=12
 cert:∀ e∈zep c.cert,e=0
 many:c.above.length<=8
 above:∀ p∈c.above, ∀ e∈prepErr p,e=0
structure entryOkE (x:zmz):Prop where
 view:0<=x.view/\x.view<=9007199254740992
 seq:1<=x.seq/\x.seq<=9007199254740992
 batch:zad x.batch=0
 sign:zah x.key x.dig=0
structure newvOkE (m:zjF):Prop where
 src:0<=m.src/\m.src<=12
 view:1<=m.view/\m.view<=9007199254740992
 manyC:m.changes.length<=13
 change:∀ c∈m.changes, ∀ e∈zvl c,e=0
 manyE:m.entries.length<=8
 entry:∀ x∈m.entries, ∀ e∈entryErr x,e=0
end Go.AW

/- Contracts: which view-changes and new views may be, the document's. -/
set_option maxRecDepth 100000
namespace Go.Proofs.YtfgbofkdhfjegaaGreat
open Go.AW
theorem c_kBroker {σ:List zh} {n:Int} {K:KT} (hK:K (.d (.int .i64 (brkE n))) σ):zp Tryz.prog zfh [.d (.int .i64 n)] σ K:=by
 refine zfc e_r10_broker fun hl => ?_
 simp only [ztb,iN,bT,bF,eN]
 refine zdS ?_
 refine c_kIn ?_
 refine zdS ?_
 refine zI hl ?_
 exact hK
theorem c_kParts12 {σ:List zh} {m:zjF} (hm:zdD m) (hk:m.kind=12) {K:KT} (hK:K (.d (.int .i64 (zbz (zoX m)))) σ):zp Tryz.prog zpz [zwl m] σ K:=by
 refine zfc e_r10_parts fun hl => ?_
 have e0:zbz (zoX m)=zbz [brkE m.src,zcp m.proof]:=by
  have e1:∀ (x:Int) (l:List Int),zbz (x::l)=zbz [x,zbz l]:=fun x l=>by
   simp only [zbz]
   split
   ·rfl
   ·split<;>simp_all
  rw [show zoX m=brkE m.src::zgD m.proof by simp [zoX,zyr,hk,show ownK 12=false from rfl],e1,zcp]
 rw [e0] at hK
 simp only [zvM,iN,bT,bF,eN]
 refine zdS ?_
 refine zhG ?_
 refine zaQ (kk12 hk) ?_
 refine c_kBroker ?_
 refine zaQ (kk12 hk) ?_
 refine c_kProof (p:=m.proof) hm.proof ?_
 refine zdS ?_
 refine zre (l := [brkE m.src,zcp m.proof]) (by simp) ?_
 refine zdS ?_
 refine zI hl ?_
 exact hK
theorem c_kOnly12 {σ:List zh} {m:zjF} (hk:m.kind=12) {K:KT} (hK:K (zwl (zvA m)) σ):zp Tryz.prog zrS [zwl m] σ K:=by
 refine zfc e_r10_only fun hl => ?_
 simp only [zxO,iN,bT,bF,eN,zl1]
 refine zaQ (kk12 hk) ?_
 refine zI hl ?_
 simp only [zvA,hk] at hK
 rw [hk]
 exact hK
theorem c_kCheck12 {σ:List zh} {m:zjF} (hm:zdD m) (hk:m.kind=12) {K:KT} (hK:K (.d (.int .i64 (zhA m))) σ):zp Tryz.prog zpA [zwl m] σ K:=by
 refine zfc e_r10_Check fun hl => ?_
 have fin:∀ z,zhA m=z->K (.d (.int .i64 z)) σ:=fun z h=>h▸hK
 clear hK
 simp only [zvO,iN,bT,bF,eN]
 refine zdS ?_
 refine c_kParts12 (m:=m) hm hk ?_
 cases h1:(zbz (zoX m) != 0)
 rotate_left
 ·refine zaQ h1 ?_
  refine zI hl ?_
  exact fin _ (by simp at h1;simp [zhA,h1])
 refine zaQ h1 ?_
 refine c_kOnly12 (m:=m) hk ?_
 refine zdS ?_
 refine c_kSame (a:=m) (b:=zvA m) hm (zxD hm) ?_
 cases h2:decide (m=zvA m)
 ·refine zdS ?_
  refine zI hl ?_
  exact fin _ (by simp at h1 h2;simp [zhA,h1,h2])
 ·refine zdS ?_
  refine zI hl ?_
  exact fin _ (by simp at h1 h2;simp [zhA,h1, ← h2])
theorem c_rdNew {σ:List zh} {tid m t lid m2 t2:Nat} {L:List (List UInt8)} {G:List zR} {f me o:Int} {tp:List UInt8} {K:KT} (hT:zdH σ tid m t L) (hG:zeY σ lid m2 t2 G) (hL:zne L) (hg:G.length<=1073741824) (htp:tp.length<=1048576)
  (hbad:zfE f me tp o≠0->∀ τ,K (.tup [.d .nilp,.d (.int .i64 (zfE f me tp o))]) (σ ++ τ))
  (hok:zfE f me tp o=0->∀ τ,K (.tup [.box (σ ++ τ).length 0,.d (.int .i64 0)]) (σ ++ τ++[rdB (zqh f me tp o) (.box tid 0) (.box lid 0) (.exact [])])) :
  zp Tryz.prog znn [.d (.int .i64 f),.d (.int .i64 me),.d (.str tp),.d (.int .i64 o),.box tid 0,.box lid 0] σ K:=by
 refine zcU zsR.is rfl fun hl _=>zsR.goes ?_
 have bad:∀ z,zfE f me tp o=z->z≠0->∀ τ,ztL K (some [.d .nilp,.d (.int .i64 z)]) (σ ++ τ):=fun z h h0 τ=>zeR (by subst h;exact hbad h0 τ)
 simp only [zsY,iN,bT,bF,eN]
 refine gq1 ?_
 refine zqY hT hL.nd hL.len hL.each ?_
 refine gq1 ?_
 refine zrf (hG.app _) hg fun G' => ?_
 refine gq1 ?_
 refine zrc ?_
 cases h1:(zcZ f != 0)
 rotate_left
 ·refine gq2 h1 ?_
  exact bad _ (by rw [zfE,if_pos (by simpa using h1)]) (by simpa using h1) _
 cases h2:decide (me<0)
 rotate_left
 ·refine gq2 (zg h1 h2) ?_
  exact bad _ (by rw [zfE,if_neg (by simpa using h1),if_pos (.inl (by simpa using h2))]) (by omega) _
 cases h3:decide (me≥8)
 rotate_left
 ·refine gq2 (zg h1 (zg h2 h3)) ?_
  exact bad _ (by rw [zfE,if_neg (by simpa using h1),if_pos (.inr (by simpa using h3))]) (by omega) _
 have h23:¬ (me<0∨me≥8):=by simp at h2 h3;omega
 refine gq2 (zg h1 (zg h2 h3)) ?_
 refine c_Name (by omega) ?_
 cases h4:zex tp
 ·refine gq2 h4 ?_
  exact bad _ (by rw [zfE,if_neg (by simpa using h1),if_neg h23,if_pos h4]) (by omega) _
 cases h5:decide (o<0)
 rotate_left
 ·refine gq2 h5 ?_
  exact bad _ (by rw [zfE,if_neg (by simpa using h1),if_neg h23,if_neg (by simp [h4]),if_pos (.inl (by simpa using h5))]) (by omega) _
 cases h6:decide (o≥9007199254740992)
 rotate_left
 ·refine gq2 (zg h5 h6) ?_
  exact bad _ (by rw [zfE,if_neg (by simpa using h1),if_neg h23,if_neg (by simp [h4]),if_pos (.inr (by simpa using h6))]) (by omega) _
 have h56:¬ (o<0∨o≥9007199254740992):=by simp at h5 h6;omega
 have hz:zfE f me tp o=0:=by rw [zfE,if_neg (by simpa using h1),if_neg h23,if_neg (by simp [h4]),if_neg h56]
 refine gq2 (zg h5 h6) ?_
 have key:=hok hz [.map (tabM L),.box [.own (σ.length+2) (zhI L),.map σ.length],.tok 1 L.length,.map (zwf G'),.box [.own (σ.length+5) (zrA G'),.map (σ.length+3)],.tok 2 G'.length]
 rw [List.append_assoc,List.length_append] at key
 exact zeR key
abbrev rdX (r:zkJ) (lv tp lp:AV):zh := .box [.d (.int .i64 r.f),.d (.int .i64 r.me),.d (.str r.topic),.d (.int .i64 r.next),lv,.d (.int .i64 r.broker),.d (.int .i64 r.wait),tp,lp]
theorem c_rxNew {σ:List zh} {a b a2 b2:Nat} {f me o:Int} {tp:List UInt8} {K:KT} (htp:tp.length<=1048576)
  (hbad:zfE f me tp o≠0->∀ τ,K (.tup [.d .nilp,.d (.int .i64 (zfE f me tp o))]) (σ ++ τ))
  (hok:zfE f me tp o=0->K (.tup [.box σ.length 0,.d (.int .i64 0)]) (σ++[rdX (zqh f me tp o) (.exact []) (.box a b) (.box a2 b2)])) :
  zp Tryz.prog zuu [.d (.int .i64 f),.d (.int .i64 me),.d (.str tp),.d (.int .i64 o),.box a b,.box a2 b2] σ K:=by
 refine zcU e_r25_New.is rfl fun hl _=>e_r25_New.goes ?_
 have bad:∀ z,zfE f me tp o=z->z≠0->ztL K (some [.d .nilp,.d (.int .i64 z)]) σ:=fun z h h0=>by
  refine zeR ?_
  subst h
  have:=hbad h0 []
  rwa [List.append_nil] at this
 simp only [S_r25_New,iN,bT,bF,eN]
 refine gq1 ?_
 refine znN ?_
 cases h1':(zcZ f != 0)
 rotate_left
 ·refine gq2 h1' ?_
  exact bad _ (by rw [zfE,if_pos (by simpa using h1')]) (by simpa using h1')
 cases h2':decide (me<0)
 rotate_left
 ·refine gq2 (zg h1' h2') ?_
  exact bad _ (by rw [zfE,if_neg (by simpa using h1'),if_pos (.inl (by simpa using h2'))]) (by omega)
 cases h3:decide (me≥8)
 rotate_left
 ·refine gq2 (zg h1' (zg h2' h3)) ?_
  exact bad _ (by rw [zfE,if_neg (by simpa using h1'),if_pos (.inr (by simpa using h3))]) (by omega)
 have h23:¬ (me<0∨me≥8):=by simp at h2' h3;omega
 refine gq2 (zg h1' (zg h2' h3)) ?_
 refine zze (by omega) ?_
 cases h4:zex tp
 ·refine gq2 h4 ?_
  exact bad _ (by rw [zfE,if_neg (by simpa using h1'),if_neg h23,if_pos h4]) (by omega)
 cases h5:decide (o<0)
 rotate_left
 ·refine gq2 h5 ?_
  exact bad _ (by rw [zfE,if_neg (by simpa using h1'),if_neg h23,if_neg (by simp [h4]),if_pos (.inl (by simpa using h5))]) (by omega)
 cases h6:decide (o≥9007199254740992)
 rotate_left
 ·refine gq2 (zg h5 h6) ?_
  exact bad _ (by rw [zfE,if_neg (by simpa using h1'),if_neg h23,if_neg (by simp [h4]),if_pos (.inr (by simpa using h6))]) (by omega)
 have h56:¬ (o<0∨o≥9007199254740992):=by simp at h5 h6;omega
 have hz:zfE f me tp o=0:=by rw [zfE,if_neg (by simpa using h1'),if_neg h23,if_neg (by simp [h4]),if_neg h56]
 refine gq2 (zg h5 h6) ?_
 exact zeR (hok hz)
theorem c_rxAsk {σ:List zh} {id:Nat} {r:zkJ} {lv tp lp:AV} {K:KT} (hσ : σ[id]? = some (rdX r lv tp lp)) (hK:K (.d (.slice (zqw (zvD r)))) σ):zp Tryz.prog zey [.box id 0] σ K:=by
 refine zfc ztv fun hl => ?_
 simp only [zmB,iN,bT,bF,eN,zl1,zl6]
 cases h:(r.next==9007199254740992)
 ·rw [zvD,if_neg (by simpa using h)] at hK
  refine gq2 (zg hσ h) ?_
  refine zI hl ?_
  exact hK
 ·rw [zvD,if_pos (by simpa using h)] at hK
  refine gq2 (zg hσ h) ?_
  refine zI hl ?_
  exact hK
theorem c_rxTick {σ:List zh} {id n:Nat} {r:zkJ} {lv tp lp:AV} {K:KT} (hσ : σ[id]? = some (rdX r lv tp lp)) (hI:zwg n r)
  (hK:∀ τ,K (.d (.slice (zqw (zrG r)))) (σ.set id (rdX (zrF r) lv tp lp) ++ τ)):zp Tryz.prog zhp [.box id 0] σ K:=by
 refine zcU zlg.is rfl fun hl _=>zlg.goes ?_
 have hw:=hI.wait
 have hb:=hI.broker
 have hf:=hI.f
 have w1:IntKind.i64.wrap (r.wait+1)=r.wait+1:=zU (by omega) (by omega)
 have w2:IntKind.i64.wrap (r.broker+1)=r.broker+1:=zU (by omega) (by omega)
 have g0:∀ Y,(σ.set id Y)[id]? = some Y:=fun Y=>List.getElem?_set_self (zB hσ)
 have ht:zcA 3 r.f=3*r.f+1:=by rw [zcA,if_neg (by omega)]
 have nz:(zcA 3 r.f==0)=false:=by rw [ht];simp;omega
 simp only [zls,iN,bT,bF,eN]
 cases h:decide (r.wait+1<4)
 ·have h':¬ (r.wait+1<4):=by simpa using h
  simp only [zrG,zrF,if_neg h'] at hK
  refine gq50 (zg hσ (zg g0 (zg w1 (zg h w2)))) ?_
  refine zsy ?_
  refine gq50 (zg g0 (zg w2 nz)) ?_
  refine c_rxAsk (r:={ r with wait := 0,broker:=(r.broker+1).tmod (zcA 3 r.f) }) (lv:=lv) (tp:=tp) (lp:=lp) (g0 _) ?_
  refine gq1 ?_
  have:=hK []
  rw [List.append_nil] at this
  exact zeR this
 ·have h':r.wait+1<4:=by simpa using h
  simp only [zrG,zrF,if_pos h'] at hK
  refine gq50 (zg hσ (zg g0 (zg w1 h))) ?_
  have:=hK []
  rw [List.append_nil] at this
  exact zeR this
theorem c_rxTake {σ:List zh} {id tid lid u n:Nat} {r:zkJ} {L:List (List UInt8)} {G:List zR} {x:zjF} {K:KT} (hσ : σ[id]? = some (rdX r (.own u (zaH r.L)) (.box tid 0) (.box lid 0))) (hu : σ[u]? = some (.tok 3 r.L.length))
  (hT : σ[tid]? = some (rtO L)) (hG : σ[lid]? = some (rlO G)) (hL:zne L) (hg:G.length<=1073741824) (hI:zwg n r) (hn:n<=1048576) (hx:zdD x)
  (hbad:zdu L G r x≠0->∀ τ,K (.tup [.d (.slice []),.d (.int .i64 (zdu L G r x))]) (σ ++ τ))
  (hok:zdu L G r x=0->∀ τ,K (.tup [.d (.slice (zqw (zvD (zde r x)))),.d (.int .i64 0)]) ((σ.set u (.tok 3 (zde r x).L.length)).set id (rdX (zde r x) (.own u (zaH (zde r x).L)) (.box tid 0) (.box lid 0)) ++ τ)) :
  zp Tryz.prog zhq [.box id 0,zwl x] σ K:=by
 refine zcU zlh.is rfl fun hl _=>zlh.goes ?_
 have hnx:=hI.next
 have hln:=hI.len
 have hlen:(zaH r.L).length=r.L.length:=List.length_map ..
 have g0:∀ τ,(σ ++ τ)[id]? = some _:=fun τ=>zf hσ
 have bad:∀ z,zdu L G r x=z->z≠0->∀ τ,ztL K (some [.exact [],.d (.int .i64 z)]) (σ ++ τ):=fun z h h0 τ=>zeR (by subst h;exact hbad h0 τ)
 simp only [zlt,iN,bT,bF,eN]
 cases h1:(x.kind != 12)
 rotate_left
 ·refine gq2 (zg h1 g0) ?_
  exact bad 250 (by rw [zdu,if_pos (.inl (by simpa using h1))]) (by omega) _
 have hk:x.kind=12:=by simpa using h1
 refine gq2 (zg h1 g0) ?_
 refine c_kCheck12 hx hk ?_
 cases h2:(zhA x != 0)
 rotate_left
 ·refine gq2 (zg h2 g0) ?_
  exact bad 250 (by rw [zdu,if_pos (.inr (.inl (by simpa using h2)))]) (by omega) _
 cases h3:(x.proof.topic==r.topic)
 ·refine gq2 (zg h2 (zg h3 g0)) ?_
  exact bad 250 (by rw [zdu,if_pos (.inr (.inr (.inl (by simpa using h3))))]) (by omega) _
 cases h4:(x.proof.offset != r.next)
 rotate_left
 ·refine gq2 (zg h2 (zg h3 (zg h4 g0))) ?_
  exact bad 250 (by rw [zdu,if_pos (.inr (.inr (.inr (.inl (by simpa using h4)))))]) (by omega) _
 cases h5:(r.next==9007199254740992)
 rotate_left
 ·refine gq2 (zg h2 (zg h3 (zg h4 (zg h5 g0)))) ?_
  exact bad 250 (by rw [zdu,if_pos (.inr (.inr (.inr (.inr (by simpa using h5)))))]) (by omega) _
 have ht:zdu L G r x=zoF L G r.f x.proof:=by
  rw [zdu,if_neg]
  rintro (h|h|h|h|h)
  ·exact h hk
  ·exact h (by simpa using h2)
  ·exact h (by simpa using h3)
  ·exact h (by simpa using h4)
  ·simp [h] at h5
 refine gq2 (zg h2 (zg h3 (zg h4 (zg h5 g0)))) ?_
 refine c_r23Verify (p:=x.proof) (f:=r.f) (zf hT) (zf hG) hL.len hg hx.proof ?_
 cases h6:(zoF L G r.f x.proof != 0)
 rotate_left
 ·refine gq2 h6 ?_
  exact bad _ ht (by simpa using h6) _
 have h6':zdu L G r x=0:=by rw [ht];simpa using h6
 have hok:=hok h6'
 clear bad hbad
 have hui:u≠id:=fun e=>by rw [e,hσ] at hu;cases hu
 have g1:∀ τ,(σ ++ τ)[u]? = some _:=fun τ=>zf hu
 have s1:∀ τ Y,(σ ++ τ).set u Y = σ.set u Y ++ τ:=fun τ Y=>List.set_append_left _ _ (zB hu)
 have f1':∀ Y,(σ.set u Y)[id]? = some _:=fun Y=>(List.getElem?_set_ne hui).trans hσ
 have f1:∀ Y τ,(σ.set u Y ++ τ)[id]? = some _:=fun Y τ=>zf (f1' Y)
 have s2:∀ Y τ Z,(σ.set u Y ++ τ).set id Z=(σ.set u Y).set id Z ++ τ:=fun Y τ Z=>List.set_append_left _ _ (zB (f1' Y))
 have f2:∀ Y Z τ,((σ.set u Y).set id Z ++ τ)[id]? = some Z:=fun Y Z τ=>zf (List.getElem?_set_self (zB (f1' Y)))
 have s3:∀ Y Z τ Z',((σ.set u Y).set id Z ++ τ).set id Z'=(σ.set u Y).set id Z' ++ τ:=fun Y Z τ Z'=>by
  rw [List.set_append_left _ _ (by simpa using zB hσ),List.set_set]
 have w1:IntKind.i64.wrap (r.next+1)=r.next+1:=zU (by omega) (by omega)
 have hxr:=hx.proof.rec_
 have hbl:(bcs x.proof.rec_).length=x.proof.rec_.length:=zav _
 refine gq2 (zg h6 (zg g0 (zg g1 (zg s1 (zg f1 (zg s2 (zg f2 (zg s3 (zg w1 (zg hlen hbl)))))))))) ?_
 have e1:zaH (zde r x).L=zaH r.L++[[.str r.topic,.int .i64 r.next,.slice (bcs x.proof.rec_)]]:=by
  simp only [zde,zaH,List.map_append,List.map_cons,List.map_nil,zdN]
 have e2:(zde r x).L.length=r.L.length+1:=by simp [zde]
 rw [e1,e2] at hok
 refine ⟨zgs,by simp,by omega,by simp,by omega,?_⟩
 refine c_rxAsk (r:=zde r x) (lv := .own u (zaH r.L++[[.str r.topic,.int .i64 r.next,.slice (bcs x.proof.rec_)]])) (tp := .box tid 0) (lp := .box lid 0) (f2 _ _ _) ?_
 refine gq1 ?_
 refine zeR ?_
 exact hok _
end Go.Proofs.YtfgbofkdhfjegaaGreat
