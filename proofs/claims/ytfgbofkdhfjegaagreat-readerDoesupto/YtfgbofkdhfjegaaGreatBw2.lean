/- Contract: what comes to a reader. -/
import Derived.Test.YtfgbofkdhfjegaaGreatPu1
import Derived.Test.YtfgbofkdhfjegaaGreatRe1
import Derived.Test.YtfgbofkdhfjegaaGreatPt2
import Derived.Test.YtfgbofkdhfjegaaGreatBt3
import Derived.Test.YtfgbofkdhfjegaaGreatTr1
import Derived.Test.YtfgbofkdhfjegaaGreatPf1
import Derived.Test.YtfgbofkdhfjegaaGreatMk8
import Derived.Test.YtfgbofkdhfjegaaGreatHi1
set_option linter.all false
set_option maxRecDepth 100000
namespace Go.Proofs.YtfgbofkdhfjegaaGreat
open Go.AW
theorem bcs_flatR (r:List UInt8):((bcs r).flatten).map AV.d=r.map fun b=>AV.d (.int .u8 b.toNat):=by
 induction r with
 | nil=>rfl
 | cons b r ih=>simp only [bcs,List.map_cons,List.flatten_cons,List.map_append] at ih ⊢;rw [ih];rfl
theorem gq65 {P Q:Prop} (h:Q) (e:Hd Q->P:=by intro h;(repeat' first|simp -dsimp only [↓zeU, ↓zaA, ↓zbp, ↓zeV, ↓zeO, ↓zeM, ↓zeP, ↓zeN, ↓zbu, ↓zbq, ↓zbv, ↓zbr, ↓zeQ, ↓zbo, ↓zbw, ↓zbs, ↓zbx, ↓zbt, ↓zeL, ↓zeT, ↓zbn, ↓zby, ↓zeG, ↓zeF, ↓zeK,iN,bT,bF,eN, ↓zco, ↓unC, ↓zX, ↓zM, ↓zN, ↓zQ, ↓zZ, ↓zai, ↓zcv, ↓zaf, ↓zaS, ↓zV, ↓zl, ↓zm, ↓zbg, ↓ze, ↓zae, ↓zC, ↓zaM, ↓zaT, ↓zd, ↓zA, ↓zr, ↓zD, ↓zao, ↓zcY, ↓zdn, ↓zap, ↓zaw, ↓zaN, ↓zaZ, ↓zbk, ↓zw, ↓zaj, ↓zO, ↓zE, ↓zY,zdr,zbm,zbl,unA,zdo,bnd,zdL,zab,zS,zdI,dm,dm1,zG,zak,zdZ,zdY,zH,Q0,Q1,Q2,Q3,Q4,Q5,zW,zx,zy,zT,zL,Q6,Q7,Q8,Q9,Q10,Q11,Q12,Q13,Q14,Nat.reduceAdd,Q15,Int.reduceToNat,Q16,Q17,Q18,Q19,Q20,reduceIte,Q21,Q22,zF,rep,zaa,zeC,toD,zag,Q23,Q24,Q25,Q26,Q27,Q28,Nat.reduceLeDiff,Q29,Nat.reduceSub,Q30,Q31,Q32,sc,Q33,Q34,Q35,Q36,Q37,Q26,Q38,Q39,zis,zio,zil,zit,zcN,ziq,zim,zir,zin,zcM,zcO,ziu,ziv,Bool.not_true,Bool.not_false,List.length_map,Bool.and_false,Bool.and_self,Bool.false_and,Bool.not_false,Bool.not_true,Bool.true_and,Int.toNat_natCast,Int.toNat_zero,List.drop_zero,List.length_map,List.length_nil,List.nil_append,List.take_length,Nat.sub_zero,Nat.zero_add,Option.isSome_none,Option.isSome_some,Option.map_none,Option.map_some,zer,zav,beq_self_eq_true,bft,bne_self_eq_false,btf,zqI,zdI]|with_reducible refine zix ?_|fail);exact h.go):P:=e ⟨h⟩
theorem zzm {σ:List zh} {b:UInt8} {r:List UInt8} (hr:(b::r).length<=1073741824) {K:KT} (hK:∀ g,K (.rsl σ.length g 1 0 (b::r).length) (σ++[.row g 1 ((b::r).map fun b=>AV.d (.int .u8 b.toNat))])) :
  zp Tryz.prog zfx [.d (.slice (bcs (b::r)))] σ K:=by
 refine zcl zoY.is rfl (fun s=>List.range' σ.length (s.length-σ.length)) fun hl _=>zoY.goes ?_
 have fin:∀ g,zoR σ.length (fun s=>List.range' σ.length (s.length-σ.length)) K (some [.rsl σ.length g 1 0 (b::r).length]) (σ++[.row g 1 ((b::r).map fun b=>AV.d (.int .u8 b.toNat))]):=fun g=>
  zdw (σ' := σ) (os := [.row g 1 ((b::r).map fun b=>AV.d (.int .u8 b.toNat))]) rfl (by simp) hl (by
   intro x hx;simp only [List.mem_cons,List.not_mem_nil,or_false] at hx;subst hx
   intro c hc
   obtain ⟨y,_,rfl⟩:=List.mem_map.1 hc
   exact .d _) (.rsl _ _ _ _ _ (by simp)) (hK g)
 have hcell:∀ x∈bcs (b::r),x.length=1:=zgs
 simp only [zpf,iN,bT,bF,eN]
 have hfl:=bcs_flatR (b::r)
 obtain ⟨es,hes⟩:∃ es,bcs (b::r)=es:=⟨_,rfl⟩
 have hlen:es.length=(b::r).length:=by rw [← hes];exact zav _
 rw [hes] at hfl hcell ⊢
 cases es with
 | nil=>simp at hlen
 | cons e es=>
  simp only [zao,zdo]
  refine gq65 ?_
  refine ⟨by simp at hlen hr;omega,?_⟩
  have:=fin 1
  rw [← hfl, ← hlen] at this
  exact this
def turnP (p:zbW):zbW:=match p.rec_ with
 | []=>p
 | b::r=>{ p with rec_:=(b ^^^ 1)::r }
def zfC (s:zaW) (r:zkJ) (a:TAct):zjF:=
 if a.do_=1 then { zgE with kind := 12,src := 1,proof:=zhO s r.next }
 else if a.do_=2 then { zgE with kind := 12,src := 1,proof:=if a.turn then turnP (zhO s a.offset) else zhO s a.offset }
 else a.m
abbrev actL (a:TAct):List AV := .d (.int .i64 a.do_)::.d (.int .i64 a.offset)::.d (.bool a.turn)::msgL a.m
theorem xor8 (b:UInt8):IntKind.u8.wrap ((BitVec.ofInt IntKind.u8.bits (b.toNat:Int) ^^^ BitVec.ofInt IntKind.u8.bits 1).toNat:Int)=((b ^^^ 1).toNat:Int):=by
 have:∀ b:UInt8,IntKind.u8.wrap ((BitVec.ofInt IntKind.u8.bits (b.toNat:Int) ^^^ BitVec.ofInt IntKind.u8.bits 1).toNat:Int)=((b ^^^ 1).toNat:Int):=by
  intro b
  obtain ⟨⟨⟨n,hn⟩⟩⟩:=b
  revert n
  decide +kernel
 exact this b
theorem zpu {s:zaW} {N m:Nat} {o:Int} (hI:StI N m s) (hm:m<=1000) (ho:zjT o):zfe (zhO s o):=by
 have h1:=hI.bl
 unfold zhO
 split
 ·rename_i k hk
  have h2:=hI.cs k (List.mem_of_find?_eq_some hk)
  exact (makeF_small hI.tab hI.bs (by omega) (by omega) (by simp) ho).1
 ·obtain ⟨n1,n2,n3,n4,n5,n6,n7,n8,n9,n10⟩:=zhj
  exact n8
theorem zlL {s:zaW} {N m n:Nat} {r:zkJ} {x:TAct} (hI:StI N m s) (hm:m<=1000) (hr:zwg n r) (hx:actOk x):zdD (zfC s r x):=by
 have h2:=hr.next
 have p1:=zpu hI hm (o:=r.next) ⟨by omega,by omega⟩
 have p2:=zpu hI hm (o:=x.offset) hx.1
 obtain ⟨n1,n2,n3,n4,n5,n6,n7,n8,n9,n10⟩:=zhj
 have tP:zfe (turnP (zhO s x.offset)):=by
  obtain ⟨q1,q2,q3,q4,q5,q6,q7,q8,q9⟩:=p2
  unfold turnP
  split
  ·exact ⟨q1,q2,q3,q4,q5,q6,q7,q8,q9⟩
  ·rename_i b t hb
   exact ⟨q1,by rw [hb] at q2;simpa using q2,q3,q4,q5,q6,q7,q8,q9⟩
 unfold zfC
 split
 ·exact ⟨n1,n2,n3,n4,n5,n6,n7,p1,n9,n10⟩
 split
 ·refine ⟨n1,n2,n3,n4,n5,n6,n7,?_,n9,n10⟩
  split
  ·exact tP
  ·exact p2
 ·exact hx.2
theorem c_comes {σ S:List zh} {C:zh} {w:AV} {s:zaW} {L:List (List UInt8)} {G:List zR} {x:TAct} {r:zkJ} {rv:AV} {N m n a a1 b1 a2 b2:Nat} {ks:List Int} {h0:zdl} (hE:WE σ C (.box a 0) w s L G S) (ha:S[a]? = some (rdB r (.box a1 b1) (.box a2 b2) rv)) (hI:StI N m s) (hm:m<=1000) (hH:zjY ks h0 s)
  (hr:zwg n r) (hx:actOk x) {K:KT} (hK:K (zwl (zfC s r x)) S):zp Tryz.prog zdQ [.box (σ.length+9) 0,.agg (actL x)] S K:=by
 refine acall_frz zki.is rfl 2 fun hl _=>zki.goes ?_
 have g9:=fun τ=>zf (τ := τ) hE.st
 have ga:=fun τ=>zf (τ := τ) ha
 simp only [zko,iN,bT,bF,eN,zl1]
 cases h1:(x.do_==1)
 rotate_left
 ·have e:zfC s r x = { zgE with kind := 12,src := 1,proof:=zhO s r.next }:=by rw [zfC,if_pos (by simpa using h1)]
  rw [e] at hK
  refine gq2 (zg h1 g9) ?_
  refine zyZ (ga _) ?_
  refine gq2 (zg h1 g9) ?_
  refine c_proof25 (hE.app _) hI hm hH fun τ => ?_
  refine gq2 (zg h1 g9) ?_
  exact znF (r:=zwl { zgE with kind := 12,src := 1,proof:=zhO s r.next }) rfl hl hK
 cases h2:(x.do_==2)
 ·have e:zfC s r x=x.m:=by rw [zfC,if_neg (by simpa using h1),if_neg (by simpa using h2)]
  rw [e] at hK
  refine gq2 (zg h1 (zg h2 g9)) ?_
  exact znF (r:=zwl x.m) rfl hl hK
 have e:zfC s r x = { zgE with kind := 12,src := 1,proof:=if x.turn then turnP (zhO s x.offset) else zhO s x.offset }:=by rw [zfC,if_neg (by simpa using h1),if_pos (by simpa using h2)]
 rw [e] at hK
 clear e
 have hp:=(zpu hI hm hx.1).rec_
 refine gq2 (zg h1 (zg h2 g9)) ?_
 refine c_proof25 (hE.app _) hI hm hH fun τ => ?_
 obtain ⟨p,hpe⟩:∃ p,zhO s x.offset=p:=⟨_,rfl⟩
 rw [hpe] at hK hp ⊢
 cases h3:x.turn
 ·rw [h3,if_neg (by simp)] at hK
  refine gq2 (zg h1 (zg h2 (zg h3 g9))) ?_
  exact znF (r:=zwl { zgE with kind := 12,src := 1,proof:=p }) rfl hl hK
 rw [h3,if_pos rfl] at hK
 have hlb:(bcs p.rec_).length=p.rec_.length:=zav _
 cases hb:p.rec_ with
 | nil=>
  have hpos:decide ((p.rec_.length:Int) > 0)=false:=by rw [hb];rfl
  have e:turnP p=p:=by rw [turnP,hb]
  rw [e] at hK
  refine gq2 (zg h1 (zg h2 (zg h3 (zg g9 (zg hlb hpos))))) ?_
  refine znF (r:=zwl { zgE with kind := 12,src := 1,proof:=p }) ?_ hl hK
  cases p
  simp only at hb
  subst hb
  rfl
 | cons b t=>
  have e:turnP p = { p with rec_:=(b ^^^ 1)::t }:=by rw [turnP,hb]
  rw [e] at hK
  have hpos:decide ((p.rec_.length:Int) > 0)=true:=by rw [hb];simp
  refine gq2 (zg h1 (zg h2 (zg h3 (zg g9 (zg hlb hpos))))) ?_
  rw [hb] at hp
  rw [hb]
  refine zzm (b:=b) (r:=t) (by omega) fun g => ?_
  refine gq2 (zg h1 (zg h2 (zg h3 (zg g9 (zg hlb hpos))))) ?_
  rw [xor8]
  have key:∀ X1 X2 X3,frz (S++X1::X2::X3::(τ++[.row g 1 (AV.d (.int .u8 ((b ^^^ 1).toNat:Int))::t.map fun b=>AV.d (.int .u8 b.toNat))])) S.length 2 (.rsl (S.length+(τ.length+3)) g 1 0 (t.length+1))=some (.slice (bcs ((b ^^^ 1)::t))):=fun X1 X2 X3=>by
   have h:=frz_rw (σ:=S++X1::X2::X3::(τ++[.row g 1 (AV.d (.int .u8 ((b ^^^ 1).toNat:Int))::t.map fun b=>AV.d (.int .u8 b.toNat))])) (n₀:=S.length) (m := 0) (t:=S.length+(τ.length+3)) (g:=g) (sz := 1) (es:=bcs ((b ^^^ 1)::t)) (by
    rw [zx]
    simp only [List.getElem?_cons_succ]
    rw [zy,show zaK (bcs ((b ^^^ 1)::t))=_ from bcs_flatR _]
    rfl) (by omega) zgs
   rw [zav] at h
   exact h
  refine znF (r:=zwl { zgE with kind := 12,src := 1,proof:={ p with rec_:=(b ^^^ 1)::t } }) ?_ hl hK
  have ex:∀ σ n es,frz σ n 2 (.exact es)=some (.slice es):=fun _ _ _=>rfl
  simp only [zcJ,frzT,frz1,List.map_cons,List.map_nil,key,frz_dd,ex,allO]
  rfl
def lvC:TCas:=⟨1, 0,[116], 0,[[1],[2],[3]], 7,[],[]⟩
def lvS:zaW:=bgF (ksC lvC) (zrL lvC.recs)
def lvM (o:Int):zjF:={ zgE with kind := 12,src := 1,proof:=zhO lvS o }
theorem lv_new:zfE 1 0 [116] 0=0:=by decide +kernel
theorem lv_other:zdu lvS.L lvS.G (zqh 1 0 [116] 0) (lvM 1)=250:=by decide +kernel
theorem lv_right:zdu lvS.L lvS.G (zqh 1 0 [116] 0) (lvM 0)=0:=by decide +kernel
theorem take_rest' {σ S:List zh} (h:∀ (j:Nat) (x:zh), σ[j]? = some x->S[j]? = some x):S.take σ.length = σ:=by
 apply List.ext_getElem?
 intro i
 rw [List.getElem?_take]
 split
 ·rename_i hi
  rw [h i _ (List.getElem?_eq_getElem hi),List.getElem?_eq_getElem hi]
 ·rw [List.getElem?_eq_none (by omega)]
theorem ends_rest' {σ S:List zh} {K:KT} {l:List AV} (h:S.take σ.length = σ) (h1:Low σ.length (dmT (zcJ l))) (hl:zgh σ.length σ) (hK:K (dmT (zcJ l)) σ):AW.Ends σ.length K (some l) S:=by
 unfold AW.Ends
 rw [h]
 exact ⟨h1,hl,hK⟩
theorem zwM {recs:List (List UInt8)} (h:∀ r∈recs,r.length<=1048576):∀ x∈zrL recs,zlI x.op<=20971520:=fun x hx=>by
 simp only [zrL,List.mem_cons] at hx
 rcases hx with rfl|hx
 ·decide
 ·obtain ⟨j,hj,rfl⟩:=List.mem_mapIdx.1 hx
  have:=h _ (List.mem_of_mem_take (List.getElem_mem hj))
  obtain ⟨y,hy⟩:∃ y,(List.take 24 recs)[j]=y:=⟨_,rfl⟩
  rw [hy] at this ⊢
  simp [pubR,zlI]
  omega
theorem rqsF_len (recs:List (List UInt8)):(zrL recs).length<=25:=by simp [zrL];omega
theorem lvOk:casOk lvC:=⟨⟨by decide,by decide⟩,⟨by decide,by decide⟩,by decide,⟨by decide,by decide⟩,by decide,by decide,by decide,by decide,by decide,by simp [lvC]⟩
theorem ksC_len (c:TCas):(ksC c).length<=13:=zyu _ _
theorem bgC_I {c:TCas} (hc:casOk c):StI 350 50 (bgF (ksC c) (zrL c.recs)):=bgF_I (zwM hc.each) (rqsF_len _) (ksC_len c)
theorem bgC_H {c:TCas} (hc:casOk c):zjY (ksC c) st0.h (bgF (ksC c) (zrL c.recs)):=bgF_H (zwM hc.each) (rqsF_len _) (memF_rng _)
def lvX1:TAct:=⟨2, 1,false,zgE⟩
def lvX2:TAct:=⟨1, 0,false,zgE⟩
theorem lvX1_ok:actOk lvX1:=⟨⟨by decide,by decide⟩,zhj⟩
theorem lvX2_ok:actOk lvX2:=⟨⟨by decide,by decide⟩,zhj⟩
theorem lv_all (s:zaW) (h:bgF (ksC lvC) (zrL lvC.recs)=s):zdu s.L s.G (zqh 1 0 [116] 0) (zfC s (zqh 1 0 [116] 0) lvX1)=250/\zdu s.L s.G (zqh 1 0 [116] 0) (zfC s (zqh 1 0 [116] 0) lvX2)=0:=by
 subst h
 exact ⟨lv_other,lv_right⟩
theorem c_live25 {σ:List zh} (hσ:∀ x∈σ, ∀ g sz cs,x≠.row g sz cs) {K:KT} (hK:K (.d (.bool true)) σ):zp Tryz.prog zsa [] σ K:=by
 refine acE0 e_l25_live fun hl => ?_
 simp only [zyc,iN,bT,bF,eN,zl0]
 refine gq1 ?_
 refine c_begunOn lvOk (fun h=>absurd lv_new h) fun _ S a b u v hO => ?_
 have hI:=bgC_I lvOk
 have hH:=bgC_H lvOk
 obtain ⟨s,hs⟩:∃ s,bgF (ksC lvC) (zrL lvC.recs)=s:=⟨_,rfl⟩
 rw [hs] at hO hI hH
 obtain ⟨k1,k2⟩:=lv_all s hs
 change OnR σ (.box (zpb lvC)) s s.L s.G 0 a b u 0 v (zqh 1 0 [116] 0) (zqh 1 0 [116] 0) S at hO
 obtain ⟨r0,hr0⟩:∃ r0,zqh 1 0 [116] 0=r0:=⟨_,rfl⟩
 rw [hr0] at hO k1 k2
 have st:=hO.e.st
 have ra:=hO.ra
 refine gq2 (zg st ra) ?_
 refine zza ra ?_
 have hak:zvD r0 = [(0,askM r0)]:=by rw [← hr0];rfl
 rw [hak]
 refine gq2 (zg st ra) ?_
 refine c_comes (x:=lvX1) hO.e ra hI (by omega) hH hO.i lvX1_ok ?_
 refine gq2 (zg st ra) ?_
 refine zyY (n := 0) ra hO.ru hO.e.tab hO.e.led hI.tab (by have:=hI.led;omega) hO.i (by omega) (zlL hI (by omega) hO.i lvX1_ok) (fun _ τ => ?_) (fun h=>by rw [k1] at h;omega)
 rw [k1]
 have hO1:=hO.app τ
 obtain ⟨S1,hS1⟩:∃ S1,S ++ τ=S1:=⟨_,rfl⟩
 rw [hS1] at hO1 ⊢
 have st1:=hO1.e.st
 have ra1:=hO1.ra
 refine gq2 (zg st1 ra1) ?_
 refine c_comes (x:=lvX2) hO1.e ra1 hI (by omega) hH hO1.i lvX2_ok ?_
 refine gq2 (zg st1 ra1) ?_
 refine zyY (n := 0) ra1 hO1.ru hO1.e.tab hO1.e.led hI.tab (by have:=hI.led;omega) hO1.i (by omega) (zlL hI (by omega) hO1.i lvX2_ok) (fun h=>absurd k2 h) (fun _ g' τ => ?_)
 have hO2:=((hO1.mono (Nat.le_refl 1 |> Nat.le_of_succ_le)).take (g':=g') (r':=zde r0 (zfC s r0 lvX2)) (by have:=take_I (L:=s.L) (G:=s.G) hO1.i (m:=zfC s r0 lvX2) (zlL hI (by omega) hO1.i lvX2_ok).proof.rec_;rwa [takeR,if_pos k2] at this)).app τ
 obtain ⟨r1,hr1⟩:∃ r1,zde r0 (zfC s r0 lvX2)=r1:=⟨_,rfl⟩
 have q1:r1.next=1:=by rw [← hr1, ← hr0];rfl
 have q2:r1.L.length=1:=by rw [← hr1, ← hr0];rfl
 have q3:zvD r1 = [(0,askM r1)]:=by rw [zvD,q1,if_neg (by omega), ← hr1, ← hr0];rfl
 rw [hr1] at hO2 ⊢
 obtain ⟨S2,hS2⟩:∃ S2,(S1.set u (.row g' 3 (zqg r1.L))).set a (rdB r1 (.box (σ.length+4) 0) (.box (σ.length+7) 0) (rsv u g' r1.L)) ++ τ=S2:=⟨_,rfl⟩
 rw [hS2] at hO2 ⊢
 have st2:=hO2.e.st
 have ra2:=hO2.ra
 have hpl:(zaH r1.L).length=1:=by rw [List.length_map];exact q2
 rw [q3]
 refine zmY (zg st2 ra2) ?_
 refine zyZ ra2 ?_
 rw [q1]
 refine zmY (zg st2 ra2) ?_
 refine c_rdRead ra2 hO2.ru (by omega) (fun p hp=>(hO2.i.recs p hp).1) ?_
 refine zmY (zg st2 (zg ra2 hpl)) ?_
 exact ends_rest' (take_rest' fun j x hx=>hO2.e.rest j x hx (hσ x (List.mem_of_getElem? hx))) (by simp [zfz,dmT,dm,dm1,zcJ]) hl hK
abbrev msgO (p:zbW):zh:=
 .box [.d (.int .i64 0),.d (.int .i64 0),.d (.int .i64 0),.d (.int .i64 0),.d (.int .i64 0),.d (.int .i64 0),.d (.int .i64 0),.d (.int .i64 0),.d (.int .i64 0),.d (.slice []),.d (.int .i64 0),.d (.int .i64 0),.d (.slice []),.d (.slice []),.d (.slice []),.d (.slice []),.d (.str []),.d (.int .i64 0),
  .d (.str p.topic),.d (.int .i64 p.offset),.d (.slice (bcs p.rec_)),.d (.slice (zgR p.headers)),.d (.int .i64 p.index),.d (.int .i64 p.count),.d (.slice (zcH p.path)),.d (.int .i64 p.cert.seq),.d (.int .i64 p.cert.dig),.d (.slice (zaI p.cert.signs)),.d (.int .i64 0),.d (.int .i64 0)]
structure OrdI (tp:List UInt8) (o:Int) (r:zkJ):Prop where
 top:r.topic=tp
 next:r.next=o+r.L.length
 each:∀ (i:Nat) p,r.L[i]? = some p->p.offset=o+i/\p.topic=tp
theorem tick_L (r:zkJ):(zrF r).L=r.L:=by unfold zrF;split<;>rfl
end Go.Proofs.YtfgbofkdhfjegaaGreat
