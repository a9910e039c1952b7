/- Contracts: votes and entries signed, the program's. -/
import Derived.Test.YtpgahkdjkanblaaGreatSpPool2
import Derived.Test.YtpgahkdjkanblaaGreatId5
import Derived.Test.YtpgahkdjkanblaaGreatSm2
import Derived.Test.YtpgahkdjkanblaaGreatPp1
import Derived.Test.YtpgahkdjkanblaaGreatSpMap
import Derived.Test.YtpgahkdjkanblaaGreatKr4
import Derived.Test.YtpgahkdjkanblaaGreatRq1
import Derived.Test.YtpgahkdjkanblaaGreatSpTab
import Derived.Test.YtpgahkdjkanblaaGreatSpOp
import Derived.Test.YtpgahkdjkanblaaGreatSm4
import Derived.Test.YtpgahkdjkanblaaGreatAwFrz
set_option linter.all false
set_option maxRecDepth 100000
namespace Go.Proofs.YtpgahkdjkanblaaGreat
open Go.AW
theorem c_auSign {i:TGi} {σ:List zh} {L:List (List UInt8)} {G:List zK} {key:Int} {b:List UInt8} (h:TG i σ L G) (hL:znT L) (hbl:b.length<=1073741824) (hg:G.length<=1073741824) {K:KT}
  (hK:K (.tup [zoq (sgnS L key b),.d (.int .i64 (zvy L key b))]) (zeU i σ (zgz L b) (zmO L G key b))) :
  zo Tryz.prog zne [.box i.id 0,.box i.id2 0,.d (.int .i64 key),.d (.slice (bcs b))] σ K:=by
 refine zd zww.is rfl fun hl _=>zww.goes ?_
 simp only [zxo,iN,bT,bF,eN]
 refine zab ?_
 refine c_tSum (h.tab.app _) hbl hL.len ?_
 rw [zto h.tab,zvA h]
 have h1:=h.put (zgz L b) G
 have hl1:=h.lows hl (zgz L b) G
 have hs1:=zfw i σ (zgz L b) G
 have hpp:=h.put_put (zgz L b) (zgz L b) G (zmO L G key b)
 obtain ⟨S1,hS1⟩:∃ S,zeU i σ (zgz L b) G=S:=⟨_,rfl⟩
 rw [hS1] at h1 hl1 hs1 hpp ⊢
 have r1 : σ.length=S1.length:=hs1.symm
 rw [r1] at hl1
 by_cases hz:zoJ L b=0
 ·have hq:(zoJ L b == 0)=true:=by simpa using hz
  simp only [zvy,sgnS,zmO,if_pos hz,zoq,hS1] at hK
  refine zB (ze hq r1) ?_
  refine zcE rfl ?_ hl1 hK
  simp [zfO,dmT,dm,dm1,zcO,zaU,zdv]
 ·have hq:(zoJ L b == 0)=false:=by simpa using hz
  rw [← hpp] at hK
  simp only [zvy,sgnS,zmO,if_neg hz] at hK
  refine zB (ze hq r1) ?_
  refine c_gSign (h1.led.app _) hg ?_
  rw [ztp h1.led,put_led_tab h1]
  have h2:=h1.put (zgz L b) (zjg G key (zoJ L b))
  have hl2:=h1.lows hl1 (zgz L b) (zjg G key (zoJ L b))
  have hs2:=zfw i S1 (zgz L b) (zjg G key (zoJ L b))
  obtain ⟨S2,hS2⟩:∃ S,zeU i S1 (zgz L b) (zjg G key (zoJ L b))=S:=⟨_,rfl⟩
  rw [hS2] at hK hs2 hl2 h2 ⊢
  have r3:S1.length=S2.length:=hs2.symm
  have r2 : σ.length=S2.length:=r1.trans r3
  rw [r3] at hl2
  simp only [zoq] at hK ⊢
  refine zB (ze r2 r3) ?_
  refine zcE rfl ?_ hl2 hK
  simp [zfO,dmT,dm,dm1,zcO,zaU,zdv]
theorem c_auVote {i:TGi} {σ:List zh} {L:List (List UInt8)} {G:List zK} {key a b c d:Int} (h:TG i σ L G) (hL:znT L) (hg:G.length<=1073741824) {K:KT}
  (hK:K (.tup [zoq (votS L key a b c d),.d (.int .i64 (votE L key a b c d))]) (zeU i σ (votL L a b c d) (votG L G key a b c d))) :
  zo Tryz.prog zrt [.box i.id 0,.box i.id2 0,.d (.int .i64 key),.d (.int .i64 a),.d (.int .i64 b),.d (.int .i64 c),.d (.int .i64 d)] σ K:=by
 refine zd zwy.is rfl fun hl _=>zwy.goes ?_
 simp only [zxq,iN,bT,bF,eN]
 refine zab ?_
 refine zsI (h.tab.app _) (h.led.app _) hL hg ?_
 refine zab ?_
 refine c_auMay ?_
 cases hm:zvi a b c d
 ·simp only [votS,votE,votL,votG,hm,Bool.false_eq_true,if_false,zoq,h.self] at hK
  refine zab ?_
  refine zw hl ?_
  exact hK
 ·simp only [votS,votE,votL,votG,hm,if_true] at hK
  have hbl:=zvq hm
  refine zab ?_
  refine zsH hm ?_
  refine zab ?_
  refine c_auSign (h.app _) hL (by omega) hg ?_
  rw [h.put_app]
  have hl2:=h.lows hl (zgz L (zkf a b c d)) (zmO L G key (zkf a b c d))
  have hs2:=zfw i σ (zgz L (zkf a b c d)) (zmO L G key (zkf a b c d))
  obtain ⟨S2,hS2⟩:∃ S,zeU i σ (zgz L (zkf a b c d)) (zmO L G key (zkf a b c d))=S:=⟨_,rfl⟩
  rw [hS2] at hK hs2 hl2 ⊢
  have r3 : σ.length=S2.length:=hs2.symm
  rw [r3] at hl2
  simp only [zoq] at hK ⊢
  refine zB r3 ?_
  refine zcE rfl ?_ hl2 hK
  simp [zfO,dmT,dm,dm1,zcO,zaU,zdv]
theorem znT.vote {L:List (List UInt8)} (h:znT L) (a b c d:Int):znT (votL L a b c d):=by
 unfold votL
 split
 ·rename_i hm
  exact h.sum (by have:=zvq hm;omega)
 ·exact h
theorem sgnG_len (L:List (List UInt8)) (G:List zK) (key:Int) (b:List UInt8):(zmO L G key b).length<=G.length+1:=by
 unfold zmO zjg signL
 split
 ·omega
 ·split
  ·split
   ·omega
   ·simp
  ·omega
theorem votG_len (L:List (List UInt8)) (G:List zK) (key a b c d:Int):(votG L G key a b c d).length<=G.length+1:=by
 unfold votG
 split
 ·exact sgnG_len ..
 ·omega
theorem znT.dig' {L:List (List UInt8)} (h:znT L) {l:List zJ} (hx:∀ s ∈ l,zlh s.op<=20971520):znT (zqr L l):=by
 unfold zqr
 split
 ·exact h
 ·rename_i hc
  have:=zlT hx
  rw [zbY,if_pos (by simpa using hc)] at this
  exact h.sum (by omega)
theorem znT.ent {L:List (List UInt8)} (h:znT L) {x:zbL} (hx:∀ s ∈ x.batch,zlh s.op<=20971520):znT (zsp L x):=by
 unfold zsp
 split
 ·exact h.dig' hx
 ·exact (h.dig' hx).vote ..
theorem entG_len (L:List (List UInt8)) (G:List zK) (key:Int) (x:zbL):(zsq L G key x).length<=G.length+1:=by
 unfold zsq
 split
 ·omega
 ·exact votG_len ..
theorem c_auEntry {i:TGi} {σ:List zh} {L:List (List UInt8)} {G:List zK} {key:Int} {x:zbL} (h:TG i σ L G) (hL:znT L) (hg:G.length<=1073741824) (hx:∀ s ∈ x.batch,zlh s.op<=20971520) (hll:x.batch.length<=1073741824)
  {K:KT} (hK:K (.tup [zwa (entX L key x),.d (.int .i64 (zlo L key x))]) (zeU i σ (zsp L x) (zsq L G key x))) :
  zo Tryz.prog zpc [.box i.id 0,.box i.id2 0,.d (.int .i64 key),zwa x] σ K:=by
 refine zd zuF.is rfl fun hl _=>zuF.goes ?_
 have hok:ziK x.batch:=⟨hll,fun s hs=>by have:=ztj (hx s hs);exact ⟨this.2.2.1,this.2.2.2⟩⟩
 simp only [zuV,iN,bT,bF,eN]
 refine zab ?_
 refine zsI (h.tab.app _) (h.led.app _) hL hg ?_
 refine zab ?_
 refine c_rqDigest (h.tab.app _) hL hx hll ?_
 rw [zto h.tab,zvA h]
 have h1:=h.put (zqr L x.batch) G
 have hl1:=h.lows hl (zqr L x.batch) G
 have hs1:=zfw i σ (zqr L x.batch) G
 have hpp:=fun G' L'=>h.put_put (zqr L x.batch) L' G G'
 obtain ⟨S1,hS1⟩:∃ S,zeU i σ (zqr L x.batch) G=S:=⟨_,rfl⟩
 rw [hS1] at h1 hl1 hs1 ⊢
 simp only [hS1] at hpp
 have r1 : σ.length=S1.length:=hs1.symm
 rw [r1] at hl1
 by_cases hz:digE L x.batch=0
 rotate_left
 ·have hq:(digE L x.batch != 0)=true:=by simpa using hz
  simp only [entX,zlo,zsp,zsq,if_pos hz,ne_eq,hz,not_false_eq_true,if_true,noEn,hS1] at hK
  refine zB (ze hq r1) ?_
  refine zcE rfl ?_ hl1 hK
  simp [zfO,dmT,dm,dm1,zcO,zaU,zdv]
 have hq:(digE L x.batch != 0)=false:=by simpa using hz
 have hz':¬ digE L x.batch ≠ 0:=by simpa using hz
 have e1:zlo L key x=votE (zqr L x.batch) key 2 x.view x.seq (zpx L x.batch):=if_neg hz'
 have e2:zsp L x=votL (zqr L x.batch) 2 x.view x.seq (zpx L x.batch):=if_neg hz'
 have e3:zsq L G key x=votG (zqr L x.batch) G key 2 x.view x.seq (zpx L x.batch):=if_neg hz'
 have hL1:=hL.dig' hx
 unfold entX at hK
 rw [e1,e2,e3, ← hpp] at hK
 obtain ⟨L1,hL1e⟩:∃ A,zqr L x.batch=A:=⟨_,rfl⟩
 rw [hL1e] at hK h1 hL1
 refine zB (ze hq r1) ?_
 refine ziX (b:=x.batch) hok ?_
 refine zB r1 ?_
 refine c_auVote (h1.app _) hL1 hg ?_
 rw [h1.put_app]
 have h2:=h1.put (votL L1 2 x.view x.seq (zpx L x.batch)) (votG L1 G key 2 x.view x.seq (zpx L x.batch))
 have hl2:=h1.lows hl1 (votL L1 2 x.view x.seq (zpx L x.batch)) (votG L1 G key 2 x.view x.seq (zpx L x.batch))
 have hs2:=zfw i S1 (votL L1 2 x.view x.seq (zpx L x.batch)) (votG L1 G key 2 x.view x.seq (zpx L x.batch))
 obtain ⟨S2,hS2⟩:∃ S,zeU i S1 (votL L1 2 x.view x.seq (zpx L x.batch)) (votG L1 G key 2 x.view x.seq (zpx L x.batch))=S:=⟨_,rfl⟩
 rw [hS2] at hK hs2 hl2 h2 ⊢
 have r3:S1.length=S2.length:=hs2.symm
 have r2 : σ.length=S2.length:=r1.trans r3
 rw [r3] at hl2
 obtain ⟨sg,hsg⟩:∃ s,votS L1 key 2 x.view x.seq (zpx L x.batch)=s:=⟨_,rfl⟩
 obtain ⟨N,hN⟩:∃ s,votE L1 key 2 x.view x.seq (zpx L x.batch)=s:=⟨_,rfl⟩
 rw [hsg,hN] at hK
 rw [hsg,hN]
 simp only [zoq]
 by_cases hn:N=0
 ·have hq2:(N != 0)=false:=by simpa using hn
  rw [if_neg (by simpa using hn),hn] at hK
  refine zB (ze hq2 (ze r2 r3)) ?_
  refine zcE rfl ?_ hl2 hK
  simp [zfO,dmT,dm,dm1,zcO,zaU,zdv]
 ·have hq2:(N != 0)=true:=by simpa using hn
  rw [if_pos hn] at hK
  simp only [noEn] at hK
  refine zB (ze hq2 (ze r2 r3)) ?_
  refine zcE rfl ?_ hl2 hK
  simp [zfO,dmT,dm,dm1,zcO,zaU,zdv]
theorem c_raEntry {σ:List zh} {id id2:Nat} {L:List (List UInt8)} {G:List zK} {key:Int} {x:zbL} (hT : σ[id]? = some (rtO L)) (hG : σ[id2]? = some (rlO G)) (hne:id ≠ id2) (hL:znT L) (hg:G.length<=1073741824)
  (hx:∀ s ∈ x.batch,zlh s.op<=20971520) (hll:x.batch.length<=1073741824)
  {K:KT} (hK:K (.tup [zwa (entX L key x),.d (.int .i64 (zlo L key x))]) ((σ.set id (rtO (zsp L x))).set id2 (rlO (zsq L G key x)))) :
  zo Tryz.prog zrn [.box id 0,.box id2 0,.d (.int .i64 key),zwa x] σ K:=by
 refine zd zwi.is rfl fun hl _=>zwi.goes ?_
 simp only [zxa,iN,bT,bF,eN]
 refine zab ?_
 refine c_rqrDigest (zx hT) hL hx hll ?_
 rw [zbS hT]
 have hl1:ziu σ.length (σ.set id (rtO (zqr L x.batch))):=hl.setO (zmQ _ _)
 have hs1:(σ.set id (rtO (zqr L x.batch))).length = σ.length:=by simp
 have hT1:(σ.set id (rtO (zqr L x.batch)))[id]? = some (rtO (zqr L x.batch)):=zcx hT
 have hG1:(σ.set id (rtO (zqr L x.batch)))[id2]? = some (rlO G):=by rw [List.getElem?_set_ne hne];exact hG
 have hpp:∀ X,(σ.set id (rtO (zqr L x.batch))).set id X = σ.set id X:=fun X=>List.set_set ..
 obtain ⟨S1,hS1⟩:∃ S1, σ.set id (rtO (zqr L x.batch))=S1:=⟨_,rfl⟩
 rw [hS1] at hT1 hG1 hs1 hl1 ⊢
 simp only [hS1] at hpp
 have r1 : σ.length=S1.length:=hs1.symm
 rw [r1] at hl1
 by_cases hz:digE L x.batch=0
 rotate_left
 ·have hq:(digE L x.batch != 0)=true:=by simpa using hz
  simp only [entX,zlo,zsp,zsq,if_pos hz,ne_eq,hz,not_false_eq_true,if_true,noEn,hS1] at hK
  rw [zcz hG1] at hK
  refine zB (ze hq r1) ?_
  refine zcE rfl ?_ hl1 hK
  simp [zfO,dmT,dm,dm1,zcO,zaU,zdv]
 have hq:(digE L x.batch != 0)=false:=by simpa using hz
 have hz':¬ digE L x.batch ≠ 0:=by simpa using hz
 have e1:zlo L key x=votE (zqr L x.batch) key 2 x.view x.seq (zpx L x.batch):=if_neg hz'
 have e2:zsp L x=votL (zqr L x.batch) 2 x.view x.seq (zpx L x.batch):=if_neg hz'
 have e3:zsq L G key x=votG (zqr L x.batch) G key 2 x.view x.seq (zpx L x.batch):=if_neg hz'
 have hL1:=hL.dig' hx
 unfold entX at hK
 rw [e1,e2,e3, ← hpp] at hK
 obtain ⟨L1,hL1e⟩:∃ A,zqr L x.batch=A:=⟨_,rfl⟩
 rw [hL1e] at hK hT1 hL1
 refine zB (ze hq r1) ?_
 refine c_raVote (zx hT1) (zx hG1) hne hL1.len hg ?_
 rw [zbS hT1,zbS (by rw [List.getElem?_set_ne hne];exact hG1)]
 have hl2:ziu S1.length ((S1.set id (rtO (votL L1 2 x.view x.seq (zpx L x.batch)))).set id2 (rlO (votG L1 G key 2 x.view x.seq (zpx L x.batch)))):=(hl1.setO (zmQ _ _)).setO (ztm _ _)
 have hs2:((S1.set id (rtO (votL L1 2 x.view x.seq (zpx L x.batch)))).set id2 (rlO (votG L1 G key 2 x.view x.seq (zpx L x.batch)))).length=S1.length:=by simp
 obtain ⟨S2,hS2⟩:∃ S,(S1.set id (rtO (votL L1 2 x.view x.seq (zpx L x.batch)))).set id2 (rlO (votG L1 G key 2 x.view x.seq (zpx L x.batch)))=S:=⟨_,rfl⟩
 rw [hS2] at hK hs2 hl2 ⊢
 have r3:S1.length=S2.length:=hs2.symm
 have r2 : σ.length=S2.length:=r1.trans r3
 rw [r3] at hl2
 obtain ⟨sg,hsg⟩:∃ s,votS L1 key 2 x.view x.seq (zpx L x.batch)=s:=⟨_,rfl⟩
 obtain ⟨N,hN⟩:∃ s,votE L1 key 2 x.view x.seq (zpx L x.batch)=s:=⟨_,rfl⟩
 rw [hsg,hN] at hK
 rw [hsg,hN]
 simp only [zoq]
 by_cases hn:N=0
 ·have hq2:(N != 0)=false:=by simpa using hn
  rw [if_neg (by simpa using hn),hn] at hK
  refine zB (ze hq2 (ze r2 r3)) ?_
  refine zcE rfl ?_ hl2 hK
  simp [zfO,dmT,dm,dm1,zcO,zaU,zdv]
 ·have hq2:(N != 0)=true:=by simpa using hn
  rw [if_pos hn] at hK
  simp only [noEn] at hK
  refine zB (ze hq2 (ze r2 r3)) ?_
  refine zcE rfl ?_ hl2 hK
  simp [zfO,dmT,dm,dm1,zcO,zaU,zdv]
end Go.Proofs.YtpgahkdjkanblaaGreat

/- Contracts: certificates that are kept. -/
set_option maxRecDepth 100000
namespace Go.Proofs.YtpgahkdjkanblaaGreat
open Go.AW
theorem c_clSign {σ:List zh} {l:List zK} (hn:l.length<=1073741824) {K:KT} (hK:K (.d (.slice (zap l))) σ):zo Tryz.prog zbU [.d (.slice (zap l))] σ K:=by
 refine zd zeL.is rfl fun hl _=>zeL.goes ?_
 have hlen:(zap l).length=l.length:=List.length_map ..
 have h2:∀ e ∈ zap l,e.length=2:=zhb (f:=zgf) (fun _=>rfl) l
 simp only [zeQ,iN,bT,bF,eN,zaa,zdd]
 obtain ⟨es,hes⟩:∃ es,zap l=es:=⟨_,rfl⟩
 rw [hes] at hlen h2 hK ⊢
 cases es with
 | nil =>
  refine ⟨?_,?_⟩
  ·refine zab ?_
   refine zw hl ?_
   exact hK
  ·refine zab ?_
   refine zw hl ?_
   exact hK
 | cons e es =>
  simp only [zV,zu,zA,zP,rep,zl,zel,zah,zG,zdR]
  refine ⟨h2,by simp,by rw [hlen];simp;omega,?_⟩
  refine zw hl ?_
  exact hK
abbrev hE (l:List (Int × zcb)):List (AV × AV):=ents (l.map fun e=>(e.1,prepA e.2))
structure HeldAt (σ:List zh) (h m:Nat) (l:List (Int × zcb)):Prop where
 box : σ[h]? = some (.box [.map m])
 map : σ[m]? = some (.map (hE l))
theorem HeldAt.app {σ:List zh} {h m:Nat} {l:List (Int × zcb)} (H:HeldAt σ h m l) (τ:List zh):HeldAt (σ ++ τ) h m l:=⟨zx H.box,zx H.map⟩
end Go.Proofs.YtpgahkdjkanblaaGreat

/- Topics: what the document says of them. No program in sight. -/
namespace Go.AW
structure TTopic where
 name:List UInt8
 base:Int
 recs:List (List UInt8)
 groups:List (List UInt8 × Int)
structure TTops where
 l:List TTopic
 last:List (Int × Int × Int)
def noTops:TTops:=⟨[],List.replicate 8 (0, 0, 0)⟩
def TTopic.next (x:TTopic):Int:=x.base+x.recs.length
abbrev zfN (es:List (List D)):List AV:=es.flatten.map .d
theorem zpe {sz:Nat}:∀ {es:List (List D)},(∀ e ∈ es,e.length=sz)->(zfN es).length=es.length * sz
 | [],_=>by simp [zfN]
 | e :: es,h=>by
  have h1:=zpe (es:=es) fun x hx=>h x (List.mem_cons_of_mem _ hx)
  have h2:=h e List.mem_cons_self
  simp only [zfN,List.length_map] at h1
  simp only [zfN,List.flatten_cons,List.map_append,List.length_append,List.length_map,h1,h2,List.length_cons,Nat.add_mul,Nat.one_mul]
  omega
theorem zyo {sz:Nat}:∀ {es:List (List D)},(∀ e ∈ es,e.length=sz)->∀ k,(zfN es).drop (k * sz)=zfN (es.drop k)
 | [],_,k=>by simp [zfN]
 | e :: es,h,k=>by
  cases k with
  | zero=>simp [zfN]
  | succ k =>
   have h1:=zyo (es:=es) (fun x hx=>h x (List.mem_cons_of_mem _ hx)) k
   have h2:=h e List.mem_cons_self
   have e1:zfN (e :: es)=e.map .d++zfN es:=by simp [zfN]
   rw [e1,List.drop_succ_cons, ← h1,List.drop_append,List.length_map,h2,show (k+1) * sz - sz=k * sz by rw [Nat.add_mul];omega,List.drop_of_length_le (by rw [List.length_map,h2,Nat.add_mul];omega)]
   rfl
theorem zvY {sz:Nat} {es:List (List D)} (h:∀ e ∈ es,e.length=sz) {k:Nat} {e:List D} (he:es[k]? = some e):((zfN es).drop (k * sz)).take sz=e.map .d:=by
 have hk:k<es.length:=(List.getElem?_eq_some_iff.1 he).1
 have hl:=h e (List.mem_of_getElem? he)
 rw [zyo h,List.drop_eq_getElem_cons hk,(List.getElem?_eq_some_iff.1 he).2]
 simp only [zfN,List.flatten_cons,List.map_append]
 rw [List.take_append_of_le_length (by rw [List.length_map,hl];exact Nat.le_refl _),List.take_of_length_le (by rw [List.length_map,hl];exact Nat.le_refl _)]
theorem ztM {sz:Nat} {es:List (List D)} (h:∀ e ∈ es,e.length=sz) {k i:Nat} {e:List D} (he:es[k]? = some e) (hi:i<sz):(zfN es)[k * sz+i]? = (e[i]?).map .d:=by
 have h1:=zvY h he
 have h2:(((zfN es).drop (k * sz)).take sz)[i]? = (zfN es)[k * sz+i]?:=by rw [List.getElem?_take,if_pos hi,List.getElem?_drop]
 rw [← h2,h1,List.getElem?_map]
structure TopI (x:TTopic):Prop where
 base:0<=x.base
 next:x.next<=9007199254740992
 recs:x.recs.length<=64
 groups:x.groups.length<=8
 name:x.name.length<=64
 each:∀ r ∈ x.recs,r.length<=64
 gs:∀ g ∈ x.groups,g.1.length<=64/\0<=g.2/\g.2<=9007199254740992
structure TopsI (T:TTops):Prop where
 len:T.l.length<=8
 tops:∀ x ∈ T.l,TopI x
theorem TopsI.none:TopsI noTops:=⟨by simp [noTops],by simp [noTops]⟩
end Go.AW

/- Contracts: clones of slices, as rows and as data. -/
set_option maxRecDepth 100000
namespace Go.Proofs.YtpgahkdjkanblaaGreat
open Go.AW
theorem gq80 {P Q:Prop} (h:Q) (e:Hd Q->P:=by intro h;(repeat' first | simp -dsimp only [↓zeN, ↓zav, ↓zbq, ↓zeO, ↓zeH, ↓zeF, ↓zeI, ↓zeG, ↓zbv, ↓zbr, ↓zbw, ↓zbs, ↓zeJ, ↓zbp, ↓zbx, ↓zbt, ↓zby, ↓zbu, ↓zeE, ↓zeM, ↓zbo, ↓zbz, ↓zeC, ↓zeB, ↓zeD,iN,bT,bF,eN, ↓zcB, ↓unC, ↓zV, ↓zM, ↓zN, ↓zQ, ↓zY, ↓zal, ↓zdb, ↓zak, ↓zaH, ↓zT, ↓zf, ↓zj, ↓zbZ, ↓zb, ↓zag, ↓zE, ↓zaI, ↓zaO, ↓zc, ↓zy, ↓zl, ↓zG, ↓zaa, ↓zdm, ↓zdw, ↓zaj, ↓zar, ↓zaK, ↓zaS, ↓zaY, ↓zq, ↓zai, ↓zO, ↓zu, ↓zX,zdx,zbg,zbb,unA,zdd,bnd,zdY,zaf,zP,zdR,dm,dm1,zA,zae,zeh,zeg,zI,Q0,Q1,Q2,Q3,Q4,Q5,zZ,zC,zt,zL,zF,Q6,Q7,Q8,Q9,Q10,Q11,Q12,Q13,Q14,Nat.reduceAdd,Q15,Int.reduceToNat,Q16,Q17,Q18,Q19,Q20,reduceIte,Q21,Q22,zH,rep,zac,zel,toD,zah,Q23,Q24,Q25,Q26,Q27,Q28,Nat.reduceLeDiff,Q29,Nat.reduceSub,Q30,Q31,Q32,sc,Q33,Q34,Q35,Q36,Q37,Q26,Q38,Q39,zoy,zov,zos,zoz,zfG,zow,zot,zox,zou,zfF,zfH,zoB,zoC,Bool.not_true,Bool.not_false,List.length_map,List.length_nil,Nat.sub_zero,ziH,zvc] | with_reducible refine zoE ?_ | fail);exact h.go):P:=e ⟨h⟩
theorem gq81 {P Q:Prop} (h:Q) (e:Hd Q->P:=by intro h;(repeat' first | simp -dsimp only [↓zeN, ↓zav, ↓zbq, ↓zeO, ↓zeH, ↓zeF, ↓zeI, ↓zeG, ↓zbv, ↓zbr, ↓zbw, ↓zbs, ↓zeJ, ↓zbp, ↓zbx, ↓zbt, ↓zby, ↓zbu, ↓zeE, ↓zeM, ↓zbo, ↓zbz, ↓zeC, ↓zeB, ↓zeD,iN,bT,bF,eN, ↓zcB, ↓unC, ↓zV, ↓zM, ↓zN, ↓zQ, ↓zY, ↓zal, ↓zdb, ↓zak, ↓zaH, ↓zT, ↓zf, ↓zj, ↓zbZ, ↓zb, ↓zag, ↓zE, ↓zaI, ↓zaO, ↓zc, ↓zy, ↓zl, ↓zG, ↓zaa, ↓zdm, ↓zdw, ↓zaj, ↓zar, ↓zaK, ↓zaS, ↓zaY, ↓zq, ↓zai, ↓zO, ↓zu, ↓zX,zdx,zbg,zbb,unA,zdd,bnd,zdY,zaf,zP,zdR,dm,dm1,zA,zae,zeh,zeg,zI,Q0,Q1,Q2,Q3,Q4,Q5,zZ,zC,zt,zL,zF,Q6,Q7,Q8,Q9,Q10,Q11,Q12,Q13,Q14,Nat.reduceAdd,Q15,Int.reduceToNat,Q16,Q17,Q18,Q19,Q20,reduceIte,Q21,Q22,zH,rep,zac,zel,toD,zah,Q23,Q24,Q25,Q26,Q27,Q28,Nat.reduceLeDiff,Q29,Nat.reduceSub,Q30,Q31,Q32,sc,Q33,Q34,Q35,Q36,Q37,Q26,Q38,Q39,zoy,zov,zos,zoz,zfG,zow,zot,zox,zou,zfF,zfH,zoB,zoC,Bool.not_true,Bool.not_false,List.length_map,Nat.sub_zero,ziH,zvc] | with_reducible refine zoE ?_ | fail);exact h.go):P:=e ⟨h⟩
theorem c_clChangeM {σ:List zh} {es:List (List D)} (h8:∀ e ∈ es,e.length=8) (hn:es.length<=1073741824) {K:KT} (hK:∀ g,K (.rsl σ.length g 8 0 es.length) (σ++[.row g 8 (zfN es)])) :
  zo Tryz.prog zcl [.d (.slice es)] σ K:=by
 refine zo.weaken ?_
 refine zce zdy.is rfl (fun s=>List.range' σ.length (s.length - σ.length)) fun hl _=>zdy.goes ?_
 have fin:∀ g,zoG σ.length (fun s=>List.range' σ.length (s.length - σ.length)) (fun r s => ∃ r' s',zua [r] s [r'] s' ∧ K r' s') (some [.rsl σ.length g 8 0 es.length]) (σ++[.row g 8 (zfN es)]):=fun g =>
  zes (σ' := σ) (os := [.row g 8 (zfN es)]) rfl (by simp) hl (by intro x hx;simp only [List.mem_cons,List.not_mem_nil,or_false] at hx;subst hx;exact zsi _ _) (.rsl _ _ _ _ _ (by simp)) ⟨_,_,.refl _ _,hK g⟩
 simp only [zdz,iN,bT,bF,eN]
 cases es with
 | nil =>
  simp only [zaa,zdd]
  refine ⟨?_,?_⟩
  ·refine zab ?_
   refine zkv (r := .exact []) (by simp) hl rfl ?_
   exact ⟨.rsl σ.length 0 8 0 0, σ++[.row 0 8 []],.row 0 8 rfl (by omega) (.refl _ _),hK 0⟩
  ·refine gq80 ?_
   exact fin 1
 | cons e es =>
  simp only [zaa,zdd]
  refine gq81 ?_
  exact ⟨by simp at hn;omega,fin 1⟩
theorem c_clEntryM {σ:List zh} {es:List (List D)} (h8:∀ e ∈ es,e.length=5) (hn:es.length<=1073741824) {K:KT} (hK:∀ g,K (.rsl σ.length g 5 0 es.length) (σ++[.row g 5 (zfN es)])) :
  zo Tryz.prog zcA [.d (.slice es)] σ K:=by
 refine zo.weaken ?_
 refine zce zdZ.is rfl (fun s=>List.range' σ.length (s.length - σ.length)) fun hl _=>zdZ.goes ?_
 have fin:∀ g,zoG σ.length (fun s=>List.range' σ.length (s.length - σ.length)) (fun r s => ∃ r' s',zua [r] s [r'] s' ∧ K r' s') (some [.rsl σ.length g 5 0 es.length]) (σ++[.row g 5 (zfN es)]):=fun g =>
  zes (σ' := σ) (os := [.row g 5 (zfN es)]) rfl (by simp) hl (by intro x hx;simp only [List.mem_cons,List.not_mem_nil,or_false] at hx;subst hx;exact zsi _ _) (.rsl _ _ _ _ _ (by simp)) ⟨_,_,.refl _ _,hK g⟩
 simp only [zea,iN,bT,bF,eN]
 cases es with
 | nil =>
  simp only [zaa,zdd]
  refine ⟨?_,?_⟩
  ·refine zab ?_
   refine zkv (r := .exact []) (by simp) hl rfl ?_
   exact ⟨.rsl σ.length 0 5 0 0, σ++[.row 0 5 []],.row 0 5 rfl (by omega) (.refl _ _),hK 0⟩
  ·refine gq80 ?_
   exact fin 1
 | cons e es =>
  simp only [zaa,zdd]
  refine gq81 ?_
  exact ⟨by simp at hn;omega,fin 1⟩
theorem c_clPrepM {σ:List zh} {es:List (List D)} (h8:∀ e ∈ es,e.length=7) (hn:es.length<=1073741824) {K:KT} (hK:∀ g,K (.rsl σ.length g 7 0 es.length) (σ++[.row g 7 (zfN es)])) :
  zo Tryz.prog zbQ [.d (.slice es)] σ K:=by
 refine zo.weaken ?_
 refine zce zcU.is rfl (fun s=>List.range' σ.length (s.length - σ.length)) fun hl _=>zcU.goes ?_
 have fin:∀ g,zoG σ.length (fun s=>List.range' σ.length (s.length - σ.length)) (fun r s => ∃ r' s',zua [r] s [r'] s' ∧ K r' s') (some [.rsl σ.length g 7 0 es.length]) (σ++[.row g 7 (zfN es)]):=fun g =>
  zes (σ' := σ) (os := [.row g 7 (zfN es)]) rfl (by simp) hl (by intro x hx;simp only [List.mem_cons,List.not_mem_nil,or_false] at hx;subst hx;exact zsi _ _) (.rsl _ _ _ _ _ (by simp)) ⟨_,_,.refl _ _,hK g⟩
 simp only [zcV,iN,bT,bF,eN]
 cases es with
 | nil =>
  simp only [zaa,zdd]
  refine ⟨?_,?_⟩
  ·refine zab ?_
   refine zkv (r := .exact []) (by simp) hl rfl ?_
   exact ⟨.rsl σ.length 0 7 0 0, σ++[.row 0 7 []],.row 0 7 rfl (by omega) (.refl _ _),hK 0⟩
  ·refine gq80 ?_
   exact fin 1
 | cons e es =>
  simp only [zaa,zdd]
  refine gq81 ?_
  exact ⟨by simp at hn;omega,fin 1⟩
theorem c_clHdr {σ:List zh} {es:List (List D)} (h8:∀ e ∈ es,e.length=5) (hn:es.length<=1073741824) {K:KT} (hK:K (.d (.slice es)) σ) :
  zo Tryz.prog zcj [.d (.slice es)] σ K:=by
 refine zd zdJ.is rfl fun hl _=>zdJ.goes ?_
 simp only [zdO,iN,bT,bF,eN,zaa,zdd]
 cases es with
 | nil =>
  refine ⟨?_,?_⟩
  ·refine zab ?_
   refine zw hl ?_
   exact hK
  ·refine zab ?_
   refine zw hl ?_
   exact hK
 | cons e es =>
  simp only [zV,zu,zA,zP,rep,zl,zel,zah,zG,zdR]
  refine ⟨h8,by simp,by simp at hn ⊢;omega,?_⟩
  refine zw hl ?_
  exact hK
theorem c_clDig {σ:List zh} {es:List (List D)} (h8:∀ e ∈ es,e.length=1) (hn:es.length<=1073741824) {K:KT} (hK:K (.d (.slice es)) σ) :
  zo Tryz.prog zck [.d (.slice es)] σ K:=by
 refine zd zdK.is rfl fun hl _=>zdK.goes ?_
 simp only [zdP,iN,bT,bF,eN,zaa,zdd]
 cases es with
 | nil =>
  refine ⟨?_,?_⟩
  ·refine zab ?_
   refine zw hl ?_
   exact hK
  ·refine zab ?_
   refine zw hl ?_
   exact hK
 | cons e es =>
  simp only [zV,zu,zA,zP,rep,zl,zel,zah,zG,zdR]
  refine ⟨h8,by simp,by simp at hn ⊢;omega,?_⟩
  refine zw hl ?_
  exact hK
theorem c_clByt {σ:List zh} {es:List (List D)} (h8:∀ e ∈ es,e.length=1) (hn:es.length<=1073741824) {K:KT} (hK:K (.d (.slice es)) σ) :
  zo Tryz.prog zdc [.d (.slice es)] σ K:=by
 refine zd zjV.is rfl fun hl _=>zjV.goes ?_
 simp only [znx,iN,bT,bF,eN,zaa,zdd]
 cases es with
 | nil =>
  refine ⟨?_,?_⟩
  ·refine zab ?_
   refine zw hl ?_
   exact hK
  ·refine zab ?_
   refine zw hl ?_
   exact hK
 | cons e es =>
  simp only [zV,zu,zA,zP,rep,zl,zel,zah,zG,zdR]
  refine ⟨h8,by simp,by simp at hn ⊢;omega,?_⟩
  refine zw hl ?_
  exact hK
theorem znq {σ:List zh} {c:zft} (hn:c.signs.length<=1073741824) {K:KT} (hK:K (zgc c) σ):zo Tryz.prog zdV [zgc c] σ K:=by
 refine zd zkC.is rfl fun hl _=>zkC.goes ?_
 simp only [zkS,iN,bT,bF,eN,zgc]
 refine zab ?_
 refine c_clSign hn ?_
 refine zab ?_
 refine zw hl ?_
 exact hK
theorem zzH {α:Type} {l:List α} {i:Nat} {x : α} (h:l[i]? = some x):l.take i++x :: l.drop (i+1)=l:=by
 obtain ⟨hi,hx⟩:=List.getElem?_eq_some_iff.1 h
 rw [← hx, ← List.drop_eq_getElem_cons hi,List.take_append_drop]
theorem row_same8 {es:List (List D)} {sz k:Nat} {e:List D} (h:∀ e ∈ es,e.length=sz) (he:es[k]? = some e):(zfN es).take (k * sz)++(e.map AV.d++(zfN es).drop (k * sz+sz))=zfN es:=by
 have h1:=zvY h he
 rw [← h1, ← List.drop_drop,List.take_append_drop,List.take_append_drop]
end Go.Proofs.YtpgahkdjkanblaaGreat
