/- Contracts: the bytes of a batch, in a row that may grow. -/
import Derived.Test.YtpgahkdjkanblaaGreatKr4
import Derived.Test.YtpgahkdjkanblaaGreatSpPut
import Derived.Test.YtpgahkdjkanblaaGreatSpMsg
set_option linter.all false
set_option maxRecDepth 100000
namespace Go.Proofs.YtpgahkdjkanblaaGreat
open Go.AW
theorem zyX {σ:List zh} {b:List UInt8} {k d:Int} (hb:b.length<=1073741700) (hc:zS k d=0) {K:KT} (hK:K (.own σ.length (bcs (b++zfR k d))) (σ++[.tok 1 (b++zfR k d).length])) :
  zo Tryz.prog zeX [.d (.slice (bcs b)),.agg [.d (.int .i64 k),.d (.int .i64 d)]] σ K:=by
 refine zce zgl.is rfl (fun s => [s.length - 1]) fun hl _=>zgl.goes ?_
 obtain ⟨k0,k1,d0,d1⟩:=zzB hc
 have hq:(zS k d != 0)=false:=by simpa using hc
 have n1:=zp (n:=k.toNat) (by omega)
 have w1:IntKind.u64.wrap k=((k.toNat:Nat):Int):=by
  rw [show k=((k.toNat:Nat):Int) by omega,zdq (by omega)];rfl
 have w2:IntKind.u64.wrap d=((d.toNat:Nat):Int):=by
  rw [show d=((d.toNat:Nat):Int) by omega,zdq (by omega)];rfl
 simp only [zit,iN,bT,bF,eN]
 refine zab ?_
 refine zet ?_
 refine zB (ze hq (ze w1 w2)) ?_
 refine zfr (by omega) (by omega) ?_
 refine zB (ze w1 w2) ?_
 refine zfr (by omega) (by simp;omega) ?_
 refine zab ?_
 refine zpg (t := σ.length+2) (sz := 1) (n:=(b++zfR k d).length) (by simp) hl (by omega) ?_ ?_
 ·rw [zC];simp [zfR,Nat.add_assoc]
 ·exact hK
theorem c_partsPutO {σ:List zh} {b:List UInt8} {l:List zJ} (hb:b.length<=268435456) (hs:∀ x ∈ l,zlh x.op<=20971520) (hc:zD l=0) {K:KT} (hK:K (.own σ.length (bcs (b++zcy l))) (σ++[.tok 1 (b++zcy l).length])) :
  zo Tryz.prog zfh [.d (.slice (zbj l)),.d (.slice (bcs b))] σ K:=by
 refine zce zfo.is rfl (fun s => [s.length - 1]) fun hl _=>zfo.goes ?_
 obtain ⟨h4,hm,_⟩:=zjX hc
 have n1:=zp (n:=l.length) (by omega)
 have w1:IntKind.u64.wrap (l.length:Int)=(l.length:Int):=zdq (by omega)
 simp only [zgO,iN,bT,bF,eN]
 refine zB w1 ?_
 refine zfr (by omega) (by omega) ?_
 refine zab ?_
 refine zm l.length (fun k vs s => ∃ T,s = σ++T++[.tok 1 (b++(zcI l.length++zdu (l.take k))).length]/\vs = [.own (σ++T).length (bcs (b++(zcI l.length++zdu (l.take k)))),.d (.int .i64 k)])
  ⟨[],by simp [zdu],by simp [zdu]⟩ ?_
 rintro k vs s hk ⟨T,rfl,rfl⟩
 by_cases hlt:k<l.length
 ·have hd:decide ((k:Int)<(l.length:Int))=true:=by simp;omega
  have hx:l[k]? = some l[k]:=by simp [hlt]
  have hgx:=zR (f:=zbc) hx
  have hxs:=hs _ (List.getElem_mem hlt)
  have hxm:=hm _ (List.getElem_mem hlt)
  obtain ⟨x,hxe⟩:∃ x,l[k]=x:=⟨_,rfl⟩
  rw [hxe] at hx hgx hxs hxm
  have hbl:=znu hs hc k
  have hrl:=zoM hxs
  have hpl:=ziw (x:=zbV x) (by omega)
  obtain ⟨t,ht⟩:∃ t,(σ++T).length=t:=⟨_,rfl⟩
  obtain ⟨S,hS⟩:∃ S, σ++T++[zh.tok 1 (b++(zcI l.length++zdu (l.take k))).length]=S:=⟨_,rfl⟩
  have hS2:S = σ++(T++[zh.tok 1 (b++(zcI l.length++zdu (l.take k))).length]):=by rw [← hS,List.append_assoc]
  rw [ht,hS]
  refine zqn (ze hd hgx) ?_
  refine zwI (x:=x) hxs ?_
  refine zqn (ze hd hgx) ?_
  refine zqu (by omega) (by simp;omega) ?_
  refine zqn (ze hd hgx) ?_
  refine zyX (by simp only [zul,List.length_append] at hpl ⊢;omega) hxm.2 ?_
  refine zB (wk1 k (by omega)) ?_
  have hwl:(zdu (l.take (k+1))).length=(zdu (l.take k)).length+((zcI (zbV x).length).length+((zbV x).length+(zfR x.key x.dig).length)):=by
   rw [zlC hx];simp [oneB,zul,zbV,hxm.1,Nat.add_assoc]
  have hw:b++(zcI l.length++zdu (l.take (k+1)))=b++(zcI l.length++(zdu (l.take k)++(zcI (zbV x).length++(zbV x++zfR x.key x.dig)))):=by
   rw [zlC hx]
   simp [oneB,zul,zbV,hxm.1]
  refine zaz.next hlt ⟨T++[zh.tok 1 (b++(zcI l.length++zdu (l.take k))).length]++[zh.box [.d (.int .i64 x.client),.d (.int .i64 x.time),.d (.int .i64 x.op.kind),.d (.str x.op.topic),.d (.str x.op.group),.d (.int .i64 x.op.offset),.d (.slice (zgp x.op.recs)),.d (.int .i64 x.key),.d (.int .i64 x.dig)],.tok 1 (b++(zcI l.length++(zdu (l.take k)++(zcI (zbV x).length++zbV x)))).length],?_,?_⟩
  ·simp only [hw,hS2];simp [Nat.add_assoc,hwl]
  ·simp only [hw,hS2];simp [Nat.add_assoc]
 ·have hd:decide ((k:Int)<(l.length:Int))=false:=by simp;omega
  rw [List.take_of_length_le (by omega)]
  simp only [List.append_assoc]
  refine zB hd ?_
  refine zpg (t := σ.length+T.length) (sz := 1) (n:=(b++zcy l).length) ?_ hl (by omega) ?_ ?_
  ·simp only [List.length_append,List.length_cons,List.length_nil];congr 1
  ·rw [zC,zt];simp [zcy]
  ·exact hK
theorem c_PutBatchO {σ:List zh} {b:List UInt8} {l:List zJ} (hb:b.length<=268435456) (hs:∀ x ∈ l,zlh x.op<=20971520) (hc:zD l=0) {K:KT} (hK:K (.own σ.length (bcs (b++zcy l))) (σ++[.tok 1 (b++zcy l).length])) :
  zo Tryz.prog zdn [.d (.slice (bcs b)),.d (.slice (zbj l))] σ K:=by
 refine zce zfL.is rfl (fun s => [s.length - 1]) fun hl _=>zfL.goes ?_
 have h4:=(zjX hc).1
 have hok:okB l:=⟨by omega,fun x hx=>ztj (hs x hx)⟩
 have hq:(zD l != 0)=false:=by simpa using hc
 simp only [zhz,iN,bT,bF,eN]
 refine zab ?_
 refine zgU hok ?_
 refine zB hq ?_
 refine c_partsPutO hb hs hc ?_
 refine zab ?_
 refine zpg (t := σ.length) (sz := 1) (n:=(b++zcy l).length) (by simp) hl (by omega) ?_ ?_
 ·rw [zt];simp
 ·exact hK
end Go.Proofs.YtpgahkdjkanblaaGreat

/- Contracts: bytes that grow, the program's. -/
set_option maxRecDepth 100000
namespace Go.Proofs.YtpgahkdjkanblaaGreat
open Go.AW
structure zpZ (σ:List zh) (id:Nat) (B O:zh) (S:List zh):Prop where
 a:S[id]? = some O
 b:S[σ.length]? = some B
 pre:∃ τ,S = σ.set id O ++ τ
section
variable {σ S:List zh} {id:Nat} {B O O':zh}
theorem zpZ.first (hσ : σ[id]? = some O) (B:zh):zpZ σ id B O (σ++[B]):=⟨zx hσ,by rw [zt];rfl,[B],by rw [zcz hσ]⟩
theorem zpZ.set (h:zpZ σ id B O S) (hid:id < σ.length) (O':zh):zpZ σ id B O' (S.set id O'):=by
 obtain ⟨h1,h2, τ,h3⟩:=h
 refine ⟨List.getElem?_set_self (zcT h1),(List.getElem?_set_ne (by omega)).trans h2, τ,?_⟩
 rw [h3,List.set_append_left _ _ (by simpa using hid),List.set_set]
theorem zpZ.app (h:zpZ σ id B O S) (τ:List zh):zpZ σ id B O (S ++ τ):=by
 obtain ⟨h1,h2, τ',h3⟩:=h
 exact ⟨zx h1,zx h2, τ' ++ τ,by rw [h3,List.append_assoc]⟩
theorem zpZ.done {K:KT} (h:zpZ σ id B O S) (hO:zxv σ.length O) (hl:ziu σ.length σ) (hK:K (.tup []) (σ.set id O)):AW.Ends σ.length K (some []) S:=by
 obtain ⟨_,_, τ,rfl⟩:=h
 exact zgS (by simp [zcO,dmT,zaU]) hl hO hK
theorem zpZ.as (h:zpZ σ id B O S) (e:O=O'):zpZ σ id B O' S:=e ▸ h
end
abbrev wO (b:List UInt8):zh := .box [.d (.slice (bcs b))]
theorem zue (n:Nat) (b:List UInt8):zxv n (wO b):=by
 intro c hc
 simp only [List.mem_cons,List.not_mem_nil,or_false] at hc
 subst hc;exact .d _
theorem w64 {x:Int} (h0:0<=x) (h1:x<=9007199254740992):IntKind.u64.wrap x=((x.toNat:Nat):Int):=by
 rw [show x=((x.toNat:Nat):Int) by omega,zdq (by omega)];rfl
section
variable {σ:List zh} {id:Nat} {b:List UInt8} {K:KT}
theorem c_wNum {l:List Int} (hσ : σ[id]? = some (wO b)) (hb:b.length<=536870912) (hl0:l.length<=1000) (hi:∀ x ∈ l, 0<=x/\x<=9007199254740992) (hK:K (.tup []) (σ.set id (wO (b++zaV l)))) :
  zo Tryz.prog zam [.box id 0,.d (.slice (zpd l))] σ K:=by
 refine zpE zlt.is rfl fun hl _=>zlt.goes ?_
 have hid:=zcT hσ
 simp only [zlH,iN,bT,bF,eN]
 refine zab ?_
 refine zm l.length (fun k vs s=>vs = [.d (.int .i64 k)]/\∃ c T,s = σ.set id (.box [c])++T/\(c = .d (.slice (bcs (b++zaV (l.take k)))) ∨ ∃ t,c = .own t (bcs (b++zaV (l.take k))))) ⟨rfl,_,[],by rw [List.append_nil,zcz hσ],.inl (by simp [zaV])⟩ ?_
 rintro k vs s hk ⟨rfl,c,T,rfl,hc⟩
 have hbox:(σ.set id (.box [c])++T)[id]? = some (.box [c]):=zx (zcx hσ)
 by_cases hlt:k<l.length
 ·have hd:decide ((k:Int)<(l.length:Int))=true:=by simp;omega
  have hx:l[k]? = some l[k]:=by simp [hlt]
  have hxi:=hi _ (List.getElem_mem hlt)
  have hgx:=zR (f:=fun t => [D.int .i64 t]) hx
  obtain ⟨x,hxe⟩:∃ x,l[k]=x:=⟨_,rfl⟩
  rw [hxe] at hx hgx hxi
  have hln:=zrY (l:=l.take k) (fun y hy=>by have:=hi y (List.mem_of_mem_take hy);omega)
  have hlk:(l.take k).length=k:=by rw [List.length_take];omega
  have hw:=w64 hxi.1 hxi.2
  have hbl:(b++zaV (l.take k)).length<=1073741824:=by rw [List.length_append];omega
  have hnx:b++zaV (l.take (k+1))=b++(zaV (l.take k)++zcI x.toNat):=by rw [List.take_add_one,hx];simp [zaV]
  have fin:∀ t τ, ∃ c' T',(σ.set id (.box [c])++T ++ τ).set id (.box [.own t (bcs (b++(zaV (l.take k)++zcI x.toNat)))]) = σ.set id (.box [c'])++T' ∧ (c' = .d (.slice (bcs (b++zaV (l.take (k+1))))) ∨ ∃ t,c' = .own t (bcs (b++zaV (l.take (k+1))))):=by
   intro t τ
   refine ⟨_,T ++ τ,?_,.inr ⟨t,rfl⟩⟩
   rw [hnx,List.append_assoc,List.set_append_left _ _ (by simpa using hid),List.set_set]
  have hbox2:∀ τ,(σ.set id (.box [c])++T ++ τ)[id]? = some (.box [c]):=fun τ=>zx hbox
  obtain ⟨S,hS⟩:∃ S, σ.set id (.box [c])++T=S:=⟨_,rfl⟩
  rw [hS] at hbox fin hbox2 ⊢
  rcases hc with rfl | ⟨t,rfl⟩
  ·refine zB (ze hd (ze hgx (ze hbox hw))) ?_
   refine zfr (by omega) hbl ?_
   refine zB (ze hbox2 (wkc k (by omega))) ?_
   exact zaz.next hlt ⟨rfl,fin _ _⟩
  ·refine zB (ze hd (ze hgx (ze hbox hw))) ?_
   refine zfr (by omega) hbl ?_
   refine zB (ze hbox2 (wkc k (by omega))) ?_
   exact zaz.next hlt ⟨rfl,fin _ _⟩
 ·have hd:decide ((k:Int)<(l.length:Int))=false:=by simp;omega
  rw [List.take_of_length_le (by omega)] at hc
  rcases hc with rfl | ⟨t,rfl⟩
  ·refine zB hd ?_
   refine znj (zgS (by simp [zcO,dmT,zaU]) hl (zue _ _) hK)
  ·refine zB hd ?_
   exact zmo hσ (by simp [zcO,dmT,zaU]) hl hK
theorem c_wMany {n:Nat} (hσ : σ[id]? = some (wO b)) (hb:b.length<=536870912) (hn:n<=1073741824) (hK:K (.tup []) (σ.set id (wO (b++zcI n)))) :
  zo Tryz.prog zcr [.box id 0,.d (.int .i64 n)] σ K:=by
 refine zd zkz.is rfl fun hl _=>zkz.goes ?_
 simp only [zkP,iN,bT,bF,eN]
 refine zab ?_
 refine c_wNum (l := [(n:Int)]) hσ hb (by simp) (by simp;omega) ?_
 refine zab ?_
 exact zgL (by simp [zcO,dmT,zaU]) hl (zue _ _) (by rw [show zaV [(n:Int)]=zcI n by simp [zaV]];exact hK)
theorem zAe {k d:Int} (hσ : σ[id]? = some (wO b)) (hb:b.length<=536870912) (hc:zS k d=0) (hK:K (.tup []) (σ.set id (wO (b++zfR k d)))) :
  zo Tryz.prog zbe [.box id 0,.agg [.d (.int .i64 k),.d (.int .i64 d)]] σ K:=by
 refine zpE ziS.is rfl fun hl _=>ziS.goes ?_
 have hid:=zcT hσ
 have hσ1:=fun τ=>zx (τ := τ) hσ
 simp only [ziZ,iN,bT,bF,eN]
 refine zB hσ1 ?_
 refine zyX (by omega) hc ?_
 refine zB hσ1 ?_
 rw [List.set_append_left _ _ hid]
 exact zmo hσ (by simp [zcO,dmT,zaU]) hl hK
theorem c_wBatch {l:List zJ} (hσ : σ[id]? = some (wO b)) (hb:b.length<=268435456) (hc:zD l=0) (hK:K (.tup []) (σ.set id (wO (b++zcy l)))) :
  zo Tryz.prog zbO [.box id 0,.d (.slice (zbj l))] σ K:=by
 refine zpE zhP.is rfl fun hl _=>zhP.goes ?_
 have hid:=zcT hσ
 have hσ1:=fun τ=>zx (τ := τ) hσ
 simp only [zhZ,iN,bT,bF,eN]
 refine zB (ze hσ hσ1) ?_
 refine c_PutBatchO hb (fun x hx=>Nat.le_trans ((zgN hc).1 x hx) (by omega)) hc ?_
 refine zB (ze hσ hσ1) ?_
 rw [List.set_append_left _ _ hid]
 exact zmo hσ (by simp [zcO,dmT,zaU]) hl hK
theorem c_wSigns {l:List zK} (hσ : σ[id]? = some (wO b)) (hb:b.length<=268435456) (hc:∀ e ∈ zcC l,e=0) (hK:K (.tup []) (σ.set id (wO (b++zvx l)))) :
  zo Tryz.prog zcS [.box id 0,.d (.slice (zap l))] σ K:=by
 refine zd zhN.is rfl fun hl _=>zhN.goes ?_
 obtain ⟨h13,hs⟩:=zzA hc
 have hid:=zcT hσ
 have hll:(zap l).length=l.length:=List.length_map ..
 simp only [zhX,iN,bT,bF,eN]
 refine zB hll ?_
 refine c_wMany (n:=l.length) hσ (by omega) (by omega) ?_
 refine zB hll ?_
 refine zm l.length (fun k vs s=>vs = [.d (.int .i64 k)]/\∃ T,s = σ.set id (wO (b++(zcI l.length++((l.take k).map fun s=>zfR s.key s.dig).flatten)))++T) ⟨rfl,[],by simp⟩ ?_
 rintro k vs s hk ⟨rfl,T,rfl⟩
 obtain ⟨O,hO⟩:∃ O,wO (b++(zcI l.length++((l.take k).map fun s=>zfR s.key s.dig).flatten))=O:=⟨_,rfl⟩
 rw [hO]
 by_cases hlt:k<l.length
 ·have hd:decide ((k:Int)<(l.length:Int))=true:=by simp;omega
  have hx:l[k]? = some l[k]:=by simp [hlt]
  have hxi:=hs _ (List.getElem_mem hlt)
  have hgx:=zR (f:=zgf) hx
  obtain ⟨x,hxe⟩:∃ x,l[k]=x:=⟨_,rfl⟩
  rw [hxe] at hx hgx hxi
  have hlen:(((l.take k).map fun s=>zfR s.key s.dig).flatten).length<=(l.take k).length * 20:=zdQ fun s hm=>zfv (hs s (List.mem_of_mem_take hm))
  have hlk:(l.take k).length=k:=by rw [List.length_take];omega
  have n1:=zp (n:=l.length) (by omega)
  obtain ⟨S,hS⟩:∃ S, σ.set id O++T=S:=⟨_,rfl⟩
  have hSid:S[id]? = some O:=by rw [← hS];exact zx (zcx hσ)
  rw [hS]
  refine zhH (ze hd (ze hgx hll)) ?_
  refine zAe (by rw [← hO] at hSid;exact zx hSid) (by simp only [List.length_append];omega) hxi ?_
  refine zB (wkc k (by omega)) ?_
  refine zaz.next hlt ⟨rfl,T++[.box [.d (.int .i64 x.key),.d (.int .i64 x.dig)]],?_⟩
  rw [zeq hx, ← hS,List.append_assoc (σ.set id O),List.set_append_left _ _ (by simpa using hid),List.set_set]
  try simp
 ·have hd:decide ((k:Int)<(l.length:Int))=false:=by simp;omega
  rw [List.take_of_length_le (by omega)] at hO
  subst hO
  refine zB (ze hd hll) ?_
  exact zgS (by simp [zcO,dmT,zaU]) hl (zue _ _) hK
theorem c_wCert {c:zft} (hσ : σ[id]? = some (wO b)) (hb:b.length<=134217728) (hc:∀ e ∈ zcX c,e=0) (hK:K (.tup []) (σ.set id (wO (b++zwC c)))) :
  zo Tryz.prog zdh [.box id 0,zgc c] σ K:=by
 refine zd ziT.is rfl fun hl _=>ziT.goes ?_
 have hid:=zcT hσ
 obtain ⟨h1,h2,h3⟩:=cert_ok hc
 have n1:=zp (n:=c.seq.toNat) (by omega)
 have n2:=zp (n:=c.dig.toNat) (by omega)
 have j:=zpZ.first hσ (.box [.d (.int .i64 c.seq),.d (.int .i64 c.dig),.d (.slice (zap c.signs))])
 simp only [zja,iN,bT,bF,eN]
 refine zab ?_
 refine c_wNum (l := [c.seq,c.dig]) j.a (by omega) (by simp) (by simp;omega) ?_
 have j:=j.set hid (wO (b++zaV [c.seq,c.dig]))
 obtain ⟨S,hS⟩:∃ S,(σ++[zh.box [.d (.int .i64 c.seq),.d (.int .i64 c.dig),.d (.slice (zap c.signs))]]).set id (wO (b++zaV [c.seq,c.dig]))=S:=⟨_,rfl⟩
 rw [hS] at j ⊢
 have b:=j.b
 refine zB b ?_
 refine c_wSigns j.a (by simp [zaV];omega) h3 ?_
 refine zab ?_
 exact (j.set hid _).done (zue _ _) hl (by simpa [zaV,zwC] using hK)
end
end Go.Proofs.YtpgahkdjkanblaaGreat
