/- Chapter 25: both readers, and where they lie. -/
import Derived.Test.YtfgbofkdhfjegaaGreatPu1
import Derived.Test.YtfgbofkdhfjegaaGreatNr3
import Derived.Test.YtfgbofkdhfjegaaGreatPt2
import Derived.Test.YtfgbofkdhfjegaaGreatBt3
import Derived.Test.YtfgbofkdhfjegaaGreatCk3
import Derived.Test.YtfgbofkdhfjegaaGreatHi2
set_option linter.all false
set_option maxRecDepth 100000
namespace Go.Proofs.YtfgbofkdhfjegaaGreat
open Go.AW
structure OnR (σ:List zg) (C:zg) (s:zaE) (L:List (List UInt8)) (G:List zI) (n a b u g v:Nat) (r q:zrD) (S:List zg):Prop where
 e:WE σ C (.box a 0) (.box b 0) s L G S
 ra:S[a]? = some (rdB r (.box (σ.length+4) 0) (.box (σ.length+7) 0) (rsv u g r.L))
 ru:S[u]? = some (.row g 3 (zpZ r.L))
 rb:S[b]? = some (rdX q (.own v (zbg q.L)) (.box (σ.length+1) 0) (.box (σ.length+2) 0))
 rv:S[v]? = some (.tok 3 q.L.length)
 ha : σ.length+9<a
 hb : σ.length+9<b
 hu : σ.length+9<u
 hv : σ.length+9<v
 ab:a≠b
 i:RdrI n r
 j:RdrI n q
section
variable {σ S:List zg} {C:zg} {s:zaE} {L:List (List UInt8)} {G:List zI} {n a b u g v:Nat} {r q:zrD}
theorem OnR.ua (h:OnR σ C s L G n a b u g v r q S):u≠a:=fun e=>by have:=h.ru;rw [e,h.ra] at this;cases this
theorem OnR.ub (h:OnR σ C s L G n a b u g v r q S):u≠b:=fun e=>by have:=h.ru;rw [e,h.rb] at this;cases this
theorem OnR.va (h:OnR σ C s L G n a b u g v r q S):v≠a:=fun e=>by have:=h.rv;rw [e,h.ra] at this;cases this
theorem OnR.uv (h:OnR σ C s L G n a b u g v r q S):u≠v:=fun e=>by have:=h.ru;rw [e,h.rv] at this;cases this
theorem OnR.app (h:OnR σ C s L G n a b u g v r q S) (τ:List zg):OnR σ C s L G n a b u g v r q (S ++ τ):=
 ⟨h.e.app τ,zd h.ra,zd h.ru,zd h.rb,zd h.rv,h.ha,h.hb,h.hu,h.hv,h.ab,h.i,h.j⟩
theorem OnR.mono {m:Nat} (h:OnR σ C s L G n a b u g v r q S) (hm:n<=m):OnR σ C s L G m a b u g v r q S:=
 ⟨h.e,h.ra,h.ru,h.rb,h.rv,h.ha,h.hb,h.hu,h.hv,h.ab,h.i.mono hm,h.j.mono hm⟩
theorem OnR.take {g':Nat} {r':zrD} (h:OnR σ C s L G n a b u g v r q S) (hI:RdrI n r'):OnR σ C s L G n a b u g' v r' q ((S.set u (.row g' 3 (zpZ r'.L))).set a (rdB r' (.box (σ.length+4) 0) (.box (σ.length+7) 0) (rsv u g' r'.L))):=by
 have h1:=h.ha;have h2:=h.hb;have h3:=h.hu;have h4:=h.hv
 have k1:=h.ua;have k2:=h.ub;have k3:=h.va;have k4:=h.uv;have k5:=h.ab
 refine ⟨(h.e.oth h3 _).oth h1 _,List.getElem?_set_self (by have:=zy h.ra;simpa using this),zc _ (List.getElem?_set_self (zy h.ru)) (by omega),zc _ (zc _ h.rb (by omega)) (by omega),zc _ (zc _ h.rv (by omega)) (by omega),h1,h2,h3,h4,k5,hI,h.j⟩
theorem OnR.clone {a' u' g':Nat} (h:OnR σ C s L G n a b u g v r q S) (ha:S[a']? = some (rdB r (.box (σ.length+4) 0) (.box (σ.length+7) 0) (rsv u' g' r.L))) (hu:S[u']? = some (.row g' 3 (zpZ r.L))) (h1 : σ.length+9<a') (h2 : σ.length+9<u') (h3:a' ≠ b) :
  OnR σ C s L G n a' b u' g' v r q (S.set (σ.length+9) (.box [.box (σ.length+4) 0,.box (σ.length+7) 0,.box (σ.length+1) 0,.box (σ.length+2) 0,.d (.slice (zbC s.bs)),.d (.slice (zeg s.cs)),.box a' 0,.box b 0])):=by
 have h2':=h.hb;have h4:=h.hv
 exact ⟨h.e.rdr _ _,zc _ ha (by omega),zc _ hu (by omega),zc _ h.rb (by omega),zc _ h.rv (by omega),h1,h2',h2,h4,h3,h.i,h.j⟩
theorem OnR.putG (h:OnR σ C s L G n a b u g v r q S) (G':List zI):OnR σ C s L G' n a b u g v r q (putLed S (σ.length+7) (σ.length+6) (σ.length+8) G'):=by
 have h1:=h.ha;have h2:=h.hb;have h3:=h.hu;have h4:=h.hv
 refine ⟨h.e.putG G',?_,?_,?_,?_,h1,h2,h3,h4,h.ab,h.i,h.j⟩<;>unfold putLed
 ·exact zc _ (zc _ (zc _ h.ra (by omega)) (by omega)) (by omega)
 ·exact zc _ (zc _ (zc _ h.ru (by omega)) (by omega)) (by omega)
 ·exact zc _ (zc _ (zc _ h.rb (by omega)) (by omega)) (by omega)
 ·exact zc _ (zc _ (zc _ h.rv (by omega)) (by omega)) (by omega)
end
theorem on_weak {S:List zg} {A B:List AV} {a b:Nat} (ha:S[a]? = some (.box A)) (hb:S[b]? = some (.box B)) (hab:a≠b) (hA:A[8]? = some (.exact [])) (hB:B[4]? = some (.exact [])) (vs:List AV) :
  zoA vs S vs ((S.set a (.box (A.set 8 (.rsl S.length 0 3 0 0)))++[zg.row 0 3 []]).set b (.box (B.set 4 (.own (S.length+1) [])))++[zg.tok 3 0]) ∧
  ((S.set a (.box (A.set 8 (.rsl S.length 0 3 0 0)))++[zg.row 0 3 []]).set b (.box (B.set 4 (.own (S.length+1) [])))++[zg.tok 3 0])[a]? = some (.box (A.set 8 (.rsl S.length 0 3 0 0))) ∧
  ((S.set a (.box (A.set 8 (.rsl S.length 0 3 0 0)))++[zg.row 0 3 []]).set b (.box (B.set 4 (.own (S.length+1) [])))++[zg.tok 3 0])[S.length]? = some (.row 0 3 []) ∧
  ((S.set a (.box (A.set 8 (.rsl S.length 0 3 0 0)))++[zg.row 0 3 []]).set b (.box (B.set 4 (.own (S.length+1) [])))++[zg.tok 3 0])[b]? = some (.box (B.set 4 (.own (S.length+1) []))) ∧
  ((S.set a (.box (A.set 8 (.rsl S.length 0 3 0 0)))++[zg.row 0 3 []]).set b (.box (B.set 4 (.own (S.length+1) [])))++[zg.tok 3 0])[S.length+1]? = some (.tok 3 0):=by
 have la:=zy ha
 have lb:=zy hb
 obtain ⟨A',hA'⟩:∃ A',zg.box (A.set 8 (.rsl S.length 0 3 0 0))=A':=⟨_,rfl⟩
 obtain ⟨S1,hS1⟩:∃ S1,S.set a A' ++ [zg.row 0 3 []]=S1:=⟨_,rfl⟩
 have l1:S1.length=S.length+1:=by rw [← hS1];simp
 have b1:S1[b]? = some (.box B):=by rw [← hS1];exact zd (zc _ hb hab)
 have a1:S1[a]? = some A':=by rw [← hS1];exact zd (List.getElem?_set_self la)
 have r1:S1[S.length]? = some (.row 0 3 []):=by
  rw [← hS1]
  have:=zw (S.set a A') [zg.row 0 3 []]
  rw [List.length_set] at this
  exact this
 rw [hA',hS1]
 refine ⟨?_,zd (zc _ a1 (by omega)),zd (zc _ r1 (by omega)),zd (List.getElem?_set_self (by omega)),?_⟩
 ·refine .rowB a 8 A 3 ha hA (by omega) ?_
  rw [hA',hS1]
  refine .tokB b 4 B [] 3 b1 hB (by simp) ?_
  rw [l1]
  exact .refl _ _
 ·have:=zw (S1.set b (.box (B.set 4 (.own (S.length+1) [])))) [zg.tok 3 0]
  rw [List.length_set,l1] at this
  exact this
theorem c_begunOn {σ:List zg} {c:TCas} (hc:casOk c) {K:KT}
  (hK1:zeK c.f c.me c.topic c.offset≠0->∀ S,WE σ (.box (znm c)) (.d .nilp) (.d .nilp) (bgF (ksC c) (znO c.recs)) (bgF (ksC c) (znO c.recs)).L (bgF (ksC c) (znO c.recs)).G S->K (.tup [.box (σ.length+9) 0,.d (.bool true)]) S)
  (hK2:zeK c.f c.me c.topic c.offset=0->∀ S a b u v,OnR σ (.box (znm c)) (bgF (ksC c) (znO c.recs)) (bgF (ksC c) (znO c.recs)).L (bgF (ksC c) (znO c.recs)).G 0 a b u 0 v (zmM c.f c.me c.topic c.offset) (zmM c.f c.me c.topic c.offset) S->K (.tup [.box (σ.length+9) 0,.d (.bool true)]) S) :
  zr Tryz.prog zcZ [.agg (znm c)] σ K:=by
 refine zr.weaken (c_begun25 hc (fun hz S hE=>⟨_,_,.refl _ _,hK1 hz S hE⟩) (fun hz S a b h1 h2 hE ha hb => ?_))
 have hI:=newR_I hz hc.topic
 obtain ⟨k1,k2,k3,k4,k5⟩:=on_weak ha hb (by omega) rfl rfl [.tup [.box (σ.length+9) 0,.d (.bool true)]]
 have la:=zy ha
 refine ⟨_,_,k1,hK2 hz _ a b S.length (S.length+1) ⟨(((hE.oth h1 _).app _).oth (by omega) _).app _,k2,k3,k4,k5,h1,by omega,by omega,by omega,by omega,hI,hI⟩⟩
theorem bcs_flatR (r:List UInt8):((bcs r).flatten).map AV.d=r.map fun b=>AV.d (.int .u8 b.toNat):=by
 induction r with
 | nil=>rfl
 | cons b r ih=>simp only [bcs,List.map_cons,List.flatten_cons,List.map_append] at ih ⊢;rw [ih];rfl
theorem gq53 {P Q:Prop} (h:Q) (e:Hd Q->P:=by intro h;(repeat' first|simp -dsimp only [↓zft, ↓zaH, ↓zbG, ↓zfu, ↓zfo, ↓zfm, ↓zfp, ↓zfn, ↓zbL, ↓zbH, ↓zbM, ↓zbI, ↓zfq, ↓zbF, ↓zbN, ↓zbJ, ↓zbO, ↓zbK, ↓zfl, ↓zfr, ↓zbE, ↓zbP, ↓zfd, ↓zfc, ↓zfk,iN,bT,bF,eN, ↓zcQ, ↓unC, ↓zY, ↓zK, ↓zL, ↓zN, ↓zae, ↓zax, ↓zcK, ↓zaq, ↓zbh, ↓zR, ↓zp, ↓zm, ↓zbV, ↓zh, ↓zak, ↓zH, ↓zaR, ↓zaY, ↓ze, ↓zD, ↓zu, ↓zB, ↓zar, ↓zdk, ↓zdz, ↓zas, ↓zaD, ↓zaV, ↓zbf, ↓zbm, ↓zA, ↓zan, ↓zM, ↓zF, ↓zad,zdE,zbu,zbo,unA,zdC,bnd,zej,zag,zS,zeh,dm,dm1,zC,zah,zeF,zeE,zQ,Q0,Q1,Q2,Q3,Q4,Q5,zV,zx,zw,zO,zJ,Q6,Q7,Q8,Q9,Q10,Q11,Q12,Q13,Q14,Nat.reduceAdd,Q15,Int.reduceToNat,Q16,Q17,Q18,Q19,Q20,reduceIte,Q21,Q22,zG,rep,zZ,zeQ,toD,zal,Q23,Q24,Q25,Q26,Q27,Q28,Nat.reduceLeDiff,Q29,Nat.reduceSub,Q30,Q31,Q32,sc,Q33,Q34,Q35,Q36,Q37,Q26,Q38,Q39,ziR,ziO,ziL,ziS,zcX,ziP,ziM,ziQ,ziN,zcW,zcY,ziU,ziV,Bool.not_true,Bool.not_false,List.length_map,Bool.and_false,Bool.and_self,Bool.false_and,Bool.not_false,Bool.not_true,Bool.true_and,Int.toNat_natCast,Int.toNat_zero,List.drop_zero,List.length_map,List.length_nil,List.nil_append,List.take_length,Nat.sub_zero,Nat.zero_add,Option.isSome_none,Option.isSome_some,Option.map_none,Option.map_some,zdP,zaL,beq_self_eq_true,bft,bne_self_eq_false,btf,zpa,zeh]|with_reducible refine ziX ?_|fail);exact h.go):P:=e ⟨h⟩
theorem zwD {σ:List zg} {b:UInt8} {r:List UInt8} (hr:(b::r).length<=1073741824) {K:KT} (hK:∀ g,K (.rsl σ.length g 1 0 (b::r).length) (σ++[.row g 1 ((b::r).map fun b=>AV.d (.int .u8 b.toNat))])) :
  zr Tryz.prog zeD [.d (.slice (bcs (b::r)))] σ K:=by
 refine zce znt.is rfl (fun s=>List.range' σ.length (s.length-σ.length)) fun hl _=>znt.goes ?_
 have fin:∀ g,znn σ.length (fun s=>List.range' σ.length (s.length-σ.length)) K (some [.rsl σ.length g 1 0 (b::r).length]) (σ++[.row g 1 ((b::r).map fun b=>AV.d (.int .u8 b.toNat))]):=fun g=>
  zdf (σ' := σ) (os := [.row g 1 ((b::r).map fun b=>AV.d (.int .u8 b.toNat))]) rfl (by simp) hl (by
   intro x hx;simp only [List.mem_cons,List.not_mem_nil,or_false] at hx;subst hx
   intro c hc
   obtain ⟨y,_,rfl⟩:=List.mem_map.1 hc
   exact .d _) (.rsl _ _ _ _ _ (by simp)) (hK g)
 have hcell:∀ x∈bcs (b::r),x.length=1:=zgd
 simp only [znA,iN,bT,bF,eN]
 have hfl:=bcs_flatR (b::r)
 obtain ⟨es,hes⟩:∃ es,bcs (b::r)=es:=⟨_,rfl⟩
 have hlen:es.length=(b::r).length:=by rw [← hes];exact zaL _
 rw [hes] at hfl hcell ⊢
 cases es with
 | nil=>simp at hlen
 | cons e es=>
  simp only [zar,zdC]
  refine gq53 ?_
  refine ⟨by simp at hlen hr;omega,?_⟩
  have:=fin 1
  rw [← hfl, ← hlen] at this
  exact this
def turnP (p:zbX):zbX:=match p.rec_ with
 | []=>p
 | b::r=>{ p with rec_:=(b ^^^ 1)::r }
def zht (s:zaE) (r:zrD) (a:TAct):zlI:=
 if a.do_=1 then { zfS with kind := 12,src := 1,proof:=zgO s r.next }
 else if a.do_=2 then { zfS with kind := 12,src := 1,proof:=if a.turn then turnP (zgO s a.offset) else zgO s a.offset }
 else a.m
abbrev actL (a:TAct):List AV := .d (.int .i64 a.do_)::.d (.int .i64 a.offset)::.d (.bool a.turn)::msgL a.m
theorem xor8 (b:UInt8):IntKind.u8.wrap ((BitVec.ofInt IntKind.u8.bits (b.toNat:Int) ^^^ BitVec.ofInt IntKind.u8.bits 1).toNat:Int)=((b ^^^ 1).toNat:Int):=by
 have:∀ b:UInt8,IntKind.u8.wrap ((BitVec.ofInt IntKind.u8.bits (b.toNat:Int) ^^^ BitVec.ofInt IntKind.u8.bits 1).toNat:Int)=((b ^^^ 1).toNat:Int):=by
  intro b
  obtain ⟨⟨⟨n,hn⟩⟩⟩:=b
  revert n
  decide +kernel
 exact this b
theorem znN {s:zaE} {N m:Nat} {o:Int} (hI:StI N m s) (hm:m<=1000) (ho:ziK o):zfy (zgO s o):=by
 have h1:=hI.bl
 unfold zgO
 split
 ·rename_i k hk
  have h2:=hI.cs k (List.mem_of_find?_eq_some hk)
  exact (makeF_small hI.tab hI.bs (by omega) (by omega) (by simp) ho).1
 ·obtain ⟨n1,n2,n3,n4,n5,n6,n7,n8,n9,n10⟩:=zic
  exact n8
theorem zkC {s:zaE} {N m n:Nat} {r:zrD} {x:TAct} (hI:StI N m s) (hm:m<=1000) (hr:RdrI n r) (hx:actOk x):zid (zht s r x):=by
 have h2:=hr.next
 have p1:=znN hI hm (o:=r.next) ⟨by omega,by omega⟩
 have p2:=znN hI hm (o:=x.offset) hx.1
 obtain ⟨n1,n2,n3,n4,n5,n6,n7,n8,n9,n10⟩:=zic
 have tP:zfy (turnP (zgO s x.offset)):=by
  obtain ⟨q1,q2,q3,q4,q5,q6,q7,q8,q9⟩:=p2
  unfold turnP
  split
  ·exact ⟨q1,q2,q3,q4,q5,q6,q7,q8,q9⟩
  ·rename_i b t hb
   exact ⟨q1,by rw [hb] at q2;simpa using q2,q3,q4,q5,q6,q7,q8,q9⟩
 unfold zht
 split
 ·exact ⟨n1,n2,n3,n4,n5,n6,n7,p1,n9,n10⟩
 split
 ·refine ⟨n1,n2,n3,n4,n5,n6,n7,?_,n9,n10⟩
  split
  ·exact tP
  ·exact p2
 ·exact hx.2
theorem c_comes {σ S:List zg} {C:zg} {w:AV} {s:zaE} {L:List (List UInt8)} {G:List zI} {x:TAct} {r:zrD} {rv:AV} {N m n a a1 b1 a2 b2:Nat} {ks:List Int} {h0:zcF} (hE:WE σ C (.box a 0) w s L G S) (ha:S[a]? = some (rdB r (.box a1 b1) (.box a2 b2) rv)) (hI:StI N m s) (hm:m<=1000) (hH:zhU ks h0 s)
  (hr:RdrI n r) (hx:actOk x) {K:KT} (hK:K (msgA (zht s r x)) S):zr Tryz.prog zds [.box (σ.length+9) 0,.agg (actL x)] S K:=by
 refine acall_frz zjj.is rfl 2 fun hl _=>zjj.goes ?_
 have g9:=fun τ=>zd (τ := τ) hE.st
 have ga:=fun τ=>zd (τ := τ) ha
 simp only [zjn,iN,bT,bF,eN,zl5]
 cases h1:(x.do_==1)
 rotate_left
 ·have e:zht s r x = { zfS with kind := 12,src := 1,proof:=zgO s r.next }:=by rw [zht,if_pos (by simpa using h1)]
  rw [e] at hK
  refine gq2 (zf h1 g9) ?_
  refine c_rdNext (ga _) ?_
  refine gq2 (zf h1 g9) ?_
  refine c_proof25 (hE.app _) hI hm hH fun τ => ?_
  refine gq2 (zf h1 g9) ?_
  exact zme (r:=msgA { zfS with kind := 12,src := 1,proof:=zgO s r.next }) rfl hl hK
 cases h2:(x.do_==2)
 ·have e:zht s r x=x.m:=by rw [zht,if_neg (by simpa using h1),if_neg (by simpa using h2)]
  rw [e] at hK
  refine gq2 (zf h1 (zf h2 g9)) ?_
  exact zme (r:=msgA x.m) rfl hl hK
 have e:zht s r x = { zfS with kind := 12,src := 1,proof:=if x.turn then turnP (zgO s x.offset) else zgO s x.offset }:=by rw [zht,if_neg (by simpa using h1),if_pos (by simpa using h2)]
 rw [e] at hK
 clear e
 have hp:=(znN hI hm hx.1).rec_
 refine gq2 (zf h1 (zf h2 g9)) ?_
 refine c_proof25 (hE.app _) hI hm hH fun τ => ?_
 obtain ⟨p,hpe⟩:∃ p,zgO s x.offset=p:=⟨_,rfl⟩
 rw [hpe] at hK hp ⊢
 cases h3:x.turn
 ·rw [h3,if_neg (by simp)] at hK
  refine gq2 (zf h1 (zf h2 (zf h3 g9))) ?_
  exact zme (r:=msgA { zfS with kind := 12,src := 1,proof:=p }) rfl hl hK
 rw [h3,if_pos rfl] at hK
 have hlb:(bcs p.rec_).length=p.rec_.length:=zaL _
 cases hb:p.rec_ with
 | nil=>
  have hpos:decide ((p.rec_.length:Int) > 0)=false:=by rw [hb];rfl
  have e:turnP p=p:=by rw [turnP,hb]
  rw [e] at hK
  refine gq2 (zf h1 (zf h2 (zf h3 (zf g9 (zf hlb hpos))))) ?_
  refine zme (r:=msgA { zfS with kind := 12,src := 1,proof:=p }) ?_ hl hK
  cases p
  simp only at hb
  subst hb
  rfl
 | cons b t=>
  have e:turnP p = { p with rec_:=(b ^^^ 1)::t }:=by rw [turnP,hb]
  rw [e] at hK
  have hpos:decide ((p.rec_.length:Int) > 0)=true:=by rw [hb];simp
  refine gq2 (zf h1 (zf h2 (zf h3 (zf g9 (zf hlb hpos))))) ?_
  rw [hb] at hp
  rw [hb]
  refine zwD (b:=b) (r:=t) (by omega) fun g => ?_
  refine gq2 (zf h1 (zf h2 (zf h3 (zf g9 (zf hlb hpos))))) ?_
  rw [xor8]
  have key:∀ X1 X2 X3,frz (S++X1::X2::X3::(τ++[.row g 1 (AV.d (.int .u8 ((b ^^^ 1).toNat:Int))::t.map fun b=>AV.d (.int .u8 b.toNat))])) S.length 2 (.rsl (S.length+(τ.length+3)) g 1 0 (t.length+1))=some (.slice (bcs ((b ^^^ 1)::t))):=fun X1 X2 X3=>by
   have h:=frz_rw (σ:=S++X1::X2::X3::(τ++[.row g 1 (AV.d (.int .u8 ((b ^^^ 1).toNat:Int))::t.map fun b=>AV.d (.int .u8 b.toNat))])) (n₀:=S.length) (m := 0) (t:=S.length+(τ.length+3)) (g:=g) (sz := 1) (es:=bcs ((b ^^^ 1)::t)) (by
    rw [zx]
    simp only [List.getElem?_cons_succ]
    rw [zw,show zaG (bcs ((b ^^^ 1)::t))=_ from bcs_flatR _]
    rfl) (by omega) zgd
   rw [zaL] at h
   exact h
  refine zme (r:=msgA { zfS with kind := 12,src := 1,proof:={ p with rec_:=(b ^^^ 1)::t } }) ?_ hl hK
  have ex:∀ σ n es,frz σ n 2 (.exact es)=some (.slice es):=fun _ _ _=>rfl
  simp only [zcH,frzT,frz1,List.map_cons,List.map_nil,key,frz_dd,ex,allO]
  rfl
def lvC:TCas:=⟨1, 0,[116], 0,[[1],[2],[3]], 7,[],[]⟩
def lvS:zaE:=bgF (ksC lvC) (znO lvC.recs)
def lvM (o:Int):zlI:={ zfS with kind := 12,src := 1,proof:=zgO lvS o }
theorem lv_new:zeK 1 0 [116] 0=0:=by decide +kernel
theorem lv_other:zgn lvS.L lvS.G (zmM 1 0 [116] 0) (lvM 1)=250:=by decide +kernel
theorem lv_right:zgn lvS.L lvS.G (zmM 1 0 [116] 0) (lvM 0)=0:=by decide +kernel
theorem take_rest' {σ S:List zg} (h:∀ (j:Nat) (x:zg), σ[j]? = some x->S[j]? = some x):S.take σ.length = σ:=by
 apply List.ext_getElem?
 intro i
 rw [List.getElem?_take]
 split
 ·rename_i hi
  rw [h i _ (List.getElem?_eq_getElem hi),List.getElem?_eq_getElem hi]
 ·rw [List.getElem?_eq_none (by omega)]
theorem ends_rest' {σ S:List zg} {K:KT} {l:List AV} (h:S.take σ.length = σ) (h1:Low σ.length (dmT (zcH l))) (hl:zfv σ.length σ) (hK:K (dmT (zcH l)) σ):AW.Ends σ.length K (some l) S:=by
 unfold AW.Ends
 rw [h]
 exact ⟨h1,hl,hK⟩
theorem zpW {recs:List (List UInt8)} (h:∀ r∈recs,r.length<=1048576):∀ x∈znO recs,zjG x.op<=20971520:=fun x hx=>by
 simp only [znO,List.mem_cons] at hx
 rcases hx with rfl|hx
 ·decide
 ·obtain ⟨j,hj,rfl⟩:=List.mem_mapIdx.1 hx
  have:=h _ (List.mem_of_mem_take (List.getElem_mem hj))
  obtain ⟨y,hy⟩:∃ y,(List.take 24 recs)[j]=y:=⟨_,rfl⟩
  rw [hy] at this ⊢
  simp [zut,zjG]
  omega
theorem rqsF_len (recs:List (List UInt8)):(znO recs).length<=25:=by simp [znO];omega
theorem lvOk:casOk lvC:=⟨⟨by decide,by decide⟩,⟨by decide,by decide⟩,by decide,⟨by decide,by decide⟩,by decide,by decide,by decide,by decide,by decide,by simp [lvC]⟩
theorem ksC_len (c:TCas):(ksC c).length<=13:=zvT _ _
theorem bgC_I {c:TCas} (hc:casOk c):StI 350 50 (bgF (ksC c) (znO c.recs)):=bgF_I (zpW hc.each) (rqsF_len _) (ksC_len c)
theorem bgC_H {c:TCas} (hc:casOk c):zhU (ksC c) st0.h (bgF (ksC c) (znO c.recs)):=bgF_H (zpW hc.each) (rqsF_len _) (memF_rng _)
def lvX1:TAct:=⟨2, 1,false,zfS⟩
def lvX2:TAct:=⟨1, 0,false,zfS⟩
theorem lvX1_ok:actOk lvX1:=⟨⟨by decide,by decide⟩,zic⟩
theorem lvX2_ok:actOk lvX2:=⟨⟨by decide,by decide⟩,zic⟩
theorem lv_all (s:zaE) (h:bgF (ksC lvC) (znO lvC.recs)=s):zgn s.L s.G (zmM 1 0 [116] 0) (zht s (zmM 1 0 [116] 0) lvX1)=250/\zgn s.L s.G (zmM 1 0 [116] 0) (zht s (zmM 1 0 [116] 0) lvX2)=0:=by
 subst h
 exact ⟨lv_other,lv_right⟩
theorem c_live25 {σ:List zg} (hσ:∀ x∈σ, ∀ g sz cs,x≠.row g sz cs) {K:KT} (hK:K (.d (.bool true)) σ):zr Tryz.prog zqk [] σ K:=by
 refine acE0 e_l25_live fun hl => ?_
 simp only [zvC,iN,bT,bF,eN,zl0]
 refine gq1 ?_
 refine c_begunOn lvOk (fun h=>absurd lv_new h) fun _ S a b u v hO => ?_
 have hI:=bgC_I lvOk
 have hH:=bgC_H lvOk
 obtain ⟨s,hs⟩:∃ s,bgF (ksC lvC) (znO lvC.recs)=s:=⟨_,rfl⟩
 rw [hs] at hO hI hH
 obtain ⟨k1,k2⟩:=lv_all s hs
 change OnR σ (.box (znm lvC)) s s.L s.G 0 a b u 0 v (zmM 1 0 [116] 0) (zmM 1 0 [116] 0) S at hO
 obtain ⟨r0,hr0⟩:∃ r0,zmM 1 0 [116] 0=r0:=⟨_,rfl⟩
 rw [hr0] at hO k1 k2
 have st:=hO.e.st
 have ra:=hO.ra
 refine gq2 (zf st ra) ?_
 refine c_rdAsk ra ?_
 have hak:askR r0 = [(0,askM r0)]:=by rw [← hr0];rfl
 rw [hak]
 refine gq2 (zf st ra) ?_
 refine c_comes (x:=lvX1) hO.e ra hI (by omega) hH hO.i lvX1_ok ?_
 refine gq2 (zf st ra) ?_
 refine zwu (n := 0) ra hO.ru hO.e.tab hO.e.led hI.tab (by have:=hI.led;omega) hO.i (by omega) (zkC hI (by omega) hO.i lvX1_ok) (fun _ τ => ?_) (fun h=>by rw [k1] at h;omega)
 rw [k1]
 have hO1:=hO.app τ
 obtain ⟨S1,hS1⟩:∃ S1,S ++ τ=S1:=⟨_,rfl⟩
 rw [hS1] at hO1 ⊢
 have st1:=hO1.e.st
 have ra1:=hO1.ra
 refine gq2 (zf st1 ra1) ?_
 refine c_comes (x:=lvX2) hO1.e ra1 hI (by omega) hH hO1.i lvX2_ok ?_
 refine gq2 (zf st1 ra1) ?_
 refine zwu (n := 0) ra1 hO1.ru hO1.e.tab hO1.e.led hI.tab (by have:=hI.led;omega) hO1.i (by omega) (zkC hI (by omega) hO1.i lvX2_ok) (fun h=>absurd k2 h) (fun _ g' τ => ?_)
 have hO2:=((hO1.mono (Nat.le_refl 1 |> Nat.le_of_succ_le)).take (g':=g') (r':=zgm r0 (zht s r0 lvX2)) (by have:=take_I (L:=s.L) (G:=s.G) hO1.i (m:=zht s r0 lvX2) (zkC hI (by omega) hO1.i lvX2_ok).proof.rec_;rwa [takeR,if_pos k2] at this)).app τ
 obtain ⟨r1,hr1⟩:∃ r1,zgm r0 (zht s r0 lvX2)=r1:=⟨_,rfl⟩
 have q1:r1.next=1:=by rw [← hr1, ← hr0];rfl
 have q2:r1.L.length=1:=by rw [← hr1, ← hr0];rfl
 have q3:askR r1 = [(0,askM r1)]:=by rw [askR,q1,if_neg (by omega), ← hr1, ← hr0];rfl
 rw [hr1] at hO2 ⊢
 obtain ⟨S2,hS2⟩:∃ S2,(S1.set u (.row g' 3 (zpZ r1.L))).set a (rdB r1 (.box (σ.length+4) 0) (.box (σ.length+7) 0) (rsv u g' r1.L)) ++ τ=S2:=⟨_,rfl⟩
 rw [hS2] at hO2 ⊢
 have st2:=hO2.e.st
 have ra2:=hO2.ra
 have hpl:(zbg r1.L).length=1:=by rw [List.length_map];exact q2
 rw [q3]
 refine zrM (zf st2 ra2) ?_
 refine c_rdNext ra2 ?_
 rw [q1]
 refine zrM (zf st2 ra2) ?_
 refine c_rdRead ra2 hO2.ru (by omega) (fun p hp=>(hO2.i.recs p hp).1) ?_
 refine zrM (zf st2 (zf ra2 hpl)) ?_
 trace_state
 exact ends_rest' (take_rest' fun j x hx=>hO2.e.rest j x hx (hσ x (List.mem_of_getElem? hx))) (by simp [zeH,dmT,dm,dm1,zcH]) hl hK
abbrev msgO (p:zbX):zg:=
 .box [.d (.int .i64 0),.d (.int .i64 0),.d (.int .i64 0),.d (.int .i64 0),.d (.int .i64 0),.d (.int .i64 0),.d (.int .i64 0),.d (.int .i64 0),.d (.int .i64 0),.d (.slice []),.d (.int .i64 0),.d (.int .i64 0),.d (.slice []),.d (.slice []),.d (.slice []),.d (.slice []),.d (.str []),.d (.int .i64 0),
  .d (.str p.topic),.d (.int .i64 p.offset),.d (.slice (bcs p.rec_)),.d (.slice (ziW p.headers)),.d (.int .i64 p.index),.d (.int .i64 p.count),.d (.slice (zdA p.path)),.d (.int .i64 p.cert.seq),.d (.int .i64 p.cert.dig),.d (.slice (zaW p.cert.signs)),.d (.int .i64 0),.d (.int .i64 0)]
theorem count_upto {n m:Nat} (h:n<=m) {p q:Int->Bool} (hpq:∀ i∈zgj n,p i=true->q i=true):(zgj n).countP p<=((zgj m).filter q).length:=by
 rw [← List.countP_eq_length_filter]
 refine Nat.le_trans (List.countP_mono_left hpq) ?_
 exact List.Sublist.countP_le ((List.range_sublist.2 h).map _)
theorem faulty_few {s:Nat} {f:Int} (h0:¬ (f<1∨f > 4)) (h:¬ ((memF (zrC s (allF (zda 3 f).toNat))).length:Int) > f):(zgj (3*f.toNat+1)).countP (inF s)<=f.toNat:=by
 have ht:zda 3 f=3*f+1:=by rw [zda,if_neg h0]
 rw [ht] at h
 have:=count_upto (n := 3*f.toNat+1) (m := 13) (by omega) (p:=inF s) (q:=inF (zrC s (allF (3*f+1).toNat))) fun i hi hp=>by
  have:=zoF.1 hi
  rw [in_both,in_all (by omega),hp]
  simp;omega
 have e:memF (zrC s (allF (3*f+1).toNat))=(zgj 13).filter (inF (zrC s (allF (3*f+1).toNat))):=rfl
 rw [e] at h
 omega
end Go.Proofs.YtfgbofkdhfjegaaGreat
