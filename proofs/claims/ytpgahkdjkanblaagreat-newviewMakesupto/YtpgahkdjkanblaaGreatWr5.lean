/- Contracts: what a message's signature stands over; which messages are signed: the program's: view-changes and new views. -/
import Derived.Test.YtpgahkdjkanblaaGreatWr4
import Derived.Test.YtpgahkdjkanblaaGreatId5
import Derived.Test.YtpgahkdjkanblaaGreatRq3
import Derived.Test.YtpgahkdjkanblaaGreatSpTab
set_option linter.all false
set_option maxRecDepth 100000
namespace Go.Proofs.YtpgahkdjkanblaaGreat
open Go.AW
abbrev uns7 (m:zee) (c:zU):zee:={ m with changes := [{ c with key := 0,dig := 1 }] }
theorem some7 {m:zee} {c:zU} (hk:m.kind=7) (hc:m.changes = [c]):zcu m=uns7 m c:=by simp [zcu,hk,hc]
theorem zxM {m:zee} {c:zU} (h:zbP m) (hc:m.changes = [c]):zbP (uns7 m c):=by
 obtain ⟨h1,h2,h3,h4,h5,h6,h7,h8,h9,h10⟩:=h
 obtain ⟨⟨a1,a2,a3⟩,⟨b1,b2,b3⟩⟩:=h5 c (by rw [hc];simp)
 exact ⟨h1,h2,h3,by simp,by intro x hx;simp at hx;subst hx;exact ⟨⟨a1,a2,a3⟩,⟨b1,b2,b3⟩⟩,h6,h7,h8,h9,h10⟩
theorem c_mUnsigned7 {σ:List zh} {m:zee} {c:zU} (hm:zbP m) (hk:m.kind=7) (hc:m.changes = [c]) {K:KT}
  (hK:K (.tup [.d (.slice (bcs (if zba (zcu m)=0 then zkb (zcu m) else []))),.d (.int .i64 (zba (zcu m)))]) σ):zo Tryz.prog zfJ [zge m] σ K:=by
 refine zd zfM.is rfl fun hl _=>zfM.goes ?_
 have hgx:(zan m.changes)[0]? = some (zaE c):=by rw [hc];rfl
 have hgl:(zan m.changes).length=1:=by rw [hc];rfl
 have hs:=zxM hm hc
 rw [some7 hk hc] at hK
 simp only [zhC,iN,bT,bF,eN]
 refine zhH (ze (show (m.kind == 1)=false by rw [hk];rfl) (ze (show (m.kind == 2)=false by rw [hk];rfl) (ze (show (m.kind == 3)=false by rw [hk];rfl) (ze (show (m.kind == 4)=false by rw [hk];rfl) (ze (show (m.kind == 5)=false by rw [hk];rfl) (ze (show (m.kind == 6)=false by rw [hk];rfl) (ze (show (m.kind == 7)=true by rw [hk];rfl) (ze (show (m.kind == 8)=false by rw [hk];rfl) (ze (show (m.kind == 9)=false by rw [hk];rfl) (ze (show (m.kind == 10)=false by rw [hk];rfl) (ze (show (m.kind == 11)=false by rw [hk];rfl) (ze (show (m.kind == 12)=false by rw [hk];rfl) (ze hgx hgl))))))))))))) ?_
 refine c_mSome ?_
 refine zhH (ze (show (m.kind == 1)=false by rw [hk];rfl) (ze (show (m.kind == 2)=false by rw [hk];rfl) (ze (show (m.kind == 3)=false by rw [hk];rfl) (ze (show (m.kind == 4)=false by rw [hk];rfl) (ze (show (m.kind == 5)=false by rw [hk];rfl) (ze (show (m.kind == 6)=false by rw [hk];rfl) (ze (show (m.kind == 7)=true by rw [hk];rfl) (ze (show (m.kind == 8)=false by rw [hk];rfl) (ze (show (m.kind == 9)=false by rw [hk];rfl) (ze (show (m.kind == 10)=false by rw [hk];rfl) (ze (show (m.kind == 11)=false by rw [hk];rfl) (ze (show (m.kind == 12)=false by rw [hk];rfl) (ze hgx hgl))))))))))))) ?_
 refine c_mBytes7 (m:=uns7 m c) hs hk ?_
 by_cases h1:zba (uns7 m c)=0
 ·have h1':(zba (uns7 m c) != 0)=false:=by simp [h1]
  have h2:zaN (uns7 m c)=0:=by
   unfold zba at h1
   split at h1
   ·rename_i hh;exact absurd h1 hh
   ·rename_i hh;simpa using hh
  obtain ⟨c',hc',he⟩:=check7 (m:=uns7 m c) hk h2
  obtain ⟨he1,he2⟩:=zkJ he
  refine zB h1' ?_
  refine zo.pre (.dataB (σ.length+2) 0 [.exact []] (.exact []) [] (by rw [zC];rfl) rfl rfl (.refl _ _)) ?_
  rw [zL]
  refine c_wUns7 (b := []) (m:=uns7 m c) (c:=c') (by rw [zC];rfl) (by simp) hk hc' he1 ?_
  rw [zL]
  refine zab ?_
  refine zw hl ?_
  rw [if_pos h1,h1] at hK
  exact hK
 ·have h1':(zba (uns7 m c) != 0)=true:=by simp [h1]
  refine zB h1' ?_
  refine zw hl ?_
  rw [if_neg h1] at hK
  exact hK
abbrev uns8 (m:zee):zee:={ m with key := 0,sdig := 1 }
theorem some8 {m:zee} (hk:m.kind=8):zcu m=uns8 m:=by simp [zcu,hk,show zvE 8=true from rfl]
theorem zxL {m:zee} (h:zbP m):zbP (uns8 m):=by
 obtain ⟨h1,h2,h3,h4,h5,h6,h7,h8,h9,h10⟩:=h
 exact ⟨h1,h2,h3,h4,h5,h6,h7,h8,h9,h10⟩
theorem c_mUnsigned8 {σ:List zh} {m:zee} (hm:zbP m) (hk:m.kind=8) {K:KT}
  (hK:K (.tup [.d (.slice (bcs (if zba (zcu m)=0 then zkb (zcu m) else []))),.d (.int .i64 (zba (zcu m)))]) σ):zo Tryz.prog zfJ [zge m] σ K:=by
 refine zd zfM.is rfl fun hl _=>zfM.goes ?_
 have hs:=zxL hm
 rw [some8 hk] at hK
 simp only [zhC,iN,bT,bF,eN]
 refine zB (ze (show (m.kind == 1)=false by rw [hk];rfl) (ze (show (m.kind == 2)=false by rw [hk];rfl) (ze (show (m.kind == 3)=false by rw [hk];rfl) (ze (show (m.kind == 4)=false by rw [hk];rfl) (ze (show (m.kind == 5)=false by rw [hk];rfl) (ze (show (m.kind == 6)=false by rw [hk];rfl) (ze (show (m.kind == 7)=false by rw [hk];rfl) (ze (show (m.kind == 8)=true by rw [hk];rfl) (ze (show (m.kind == 9)=false by rw [hk];rfl) (ze (show (m.kind == 10)=false by rw [hk];rfl) (ze (show (m.kind == 11)=false by rw [hk];rfl) (show (m.kind == 12)=false by rw [hk];rfl)))))))))))) ?_
 refine zmB ?_
 refine zB (show zvE m.kind=true by rw [hk];rfl) ?_
 refine c_mSome ?_
 refine zB (ze (show (m.kind == 1)=false by rw [hk];rfl) (ze (show (m.kind == 2)=false by rw [hk];rfl) (ze (show (m.kind == 3)=false by rw [hk];rfl) (ze (show (m.kind == 4)=false by rw [hk];rfl) (ze (show (m.kind == 5)=false by rw [hk];rfl) (ze (show (m.kind == 6)=false by rw [hk];rfl) (ze (show (m.kind == 7)=false by rw [hk];rfl) (ze (show (m.kind == 8)=true by rw [hk];rfl) (ze (show (m.kind == 9)=false by rw [hk];rfl) (ze (show (m.kind == 10)=false by rw [hk];rfl) (ze (show (m.kind == 11)=false by rw [hk];rfl) (show (m.kind == 12)=false by rw [hk];rfl)))))))))))) ?_
 refine c_mBytes8 (m:=uns8 m) hs hk ?_
 by_cases h1:zba (uns8 m)=0
 ·have h1':(zba (uns8 m) != 0)=false:=by simp [h1]
  have h2:zaN (uns8 m)=0:=by
   unfold zba at h1
   split at h1
   ·rename_i hh;exact absurd h1 hh
   ·rename_i hh;simpa using hh
  obtain ⟨he1,he2⟩:=check8 (m:=uns8 m) hk h2
  refine zB h1' ?_
  refine zo.pre (.dataB (σ.length+1) 0 [.exact []] (.exact []) [] (by rw [zC];rfl) rfl rfl (.refl _ _)) ?_
  rw [zL]
  refine c_wUns8 (b := []) (m:=uns8 m) (by rw [zC];rfl) (by simp) hk he1 ?_
  rw [zL]
  refine zab ?_
  refine zw hl ?_
  rw [if_pos h1,h1] at hK
  exact hK
 ·have h1':(zba (uns8 m) != 0)=true:=by simp [h1]
  refine zB h1' ?_
  refine zw hl ?_
  rw [if_neg h1] at hK
  exact hK
theorem bcs1 (l:List UInt8):∀ e ∈ bcs l,e.length=1:=by
 intro e he
 simp only [bcs,List.mem_map] at he
 obtain ⟨x,_,rfl⟩:=he
 rfl
theorem zvr {m:zee} (h:zba m=0):(zkb m).length<=262144:=by
 unfold zba at h
 split at h
 ·rename_i hh;exact absurd h hh
 ·split at h
  ·cases h
  ·rename_i hh;simp only [zlc,List.length_append] at hh;omega
theorem c_auContent7 {σ:List zh} {m:zee} {c:zU} (hm:zbP m) (hk:m.kind=7) (hc:m.changes = [c]) {K:KT}
  (hK:K (.tup [.d (.slice (bcs (zfc m))),.d (.int .i64 (zba (zcu m)))]) σ):zo Tryz.prog zgw [zge m] σ K:=by
 refine zd ziG.is rfl fun hl _=>ziG.goes ?_
 simp only [zlW,iN,bT,bF,eN]
 refine zab ?_
 refine c_mUnsigned7 (m:=m) hm hk hc ?_
 by_cases h1:zba (zcu m)=0
 ·have h1':(zba (zcu m) != 0)=false:=by simp [h1]
  have h2:zfc m=6 :: zkb (zcu m):=by simp [zfc,h1]
  have hlen:=zvr h1
  rw [if_pos h1]
  refine zB (ze h1' (ze (show (m.kind == 1)=false by rw [hk];rfl) (ze (show (m.kind == 2)=false by rw [hk];rfl) (ze (show (m.kind == 3)=false by rw [hk];rfl) (ze (show (m.kind == 4)=false by rw [hk];rfl) (ze (show (m.kind == 5)=false by rw [hk];rfl) (ze (show (m.kind == 6)=false by rw [hk];rfl) (ze (show (m.kind == 7)=true by rw [hk];rfl) (ze (show (m.kind == 8)=false by rw [hk];rfl) (ze (show (m.kind == 9)=false by rw [hk];rfl) (ze (show (m.kind == 10)=false by rw [hk];rfl) (ze (show (m.kind == 11)=false by rw [hk];rfl) (show (m.kind == 12)=false by rw [hk];rfl))))))))))))) ?_
  refine ⟨bcs1 _,by simp,by omega,?_⟩
  refine zw hl ?_
  rw [h2,h1] at hK
  exact hK
 ·have h1':(zba (zcu m) != 0)=true:=by simp [h1]
  have h2:zfc m = []:=by simp [zfc,h1]
  rw [if_neg h1]
  refine zB h1' ?_
  refine zw hl ?_
  rw [h2] at hK
  exact hK
theorem c_auContent8 {σ:List zh} {m:zee} (hm:zbP m) (hk:m.kind=8) {K:KT}
  (hK:K (.tup [.d (.slice (bcs (zfc m))),.d (.int .i64 (zba (zcu m)))]) σ):zo Tryz.prog zgw [zge m] σ K:=by
 refine zd ziG.is rfl fun hl _=>ziG.goes ?_
 simp only [zlW,iN,bT,bF,eN]
 refine zab ?_
 refine c_mUnsigned8 (m:=m) hm hk ?_
 by_cases h1:zba (zcu m)=0
 ·have h1':(zba (zcu m) != 0)=false:=by simp [h1]
  have h2:zfc m=6 :: zkb (zcu m):=by simp [zfc,h1]
  have hlen:=zvr h1
  rw [if_pos h1]
  refine zB (ze h1' (ze (show (m.kind == 1)=false by rw [hk];rfl) (ze (show (m.kind == 2)=false by rw [hk];rfl) (ze (show (m.kind == 3)=false by rw [hk];rfl) (ze (show (m.kind == 4)=false by rw [hk];rfl) (ze (show (m.kind == 5)=false by rw [hk];rfl) (ze (show (m.kind == 6)=false by rw [hk];rfl) (ze (show (m.kind == 7)=false by rw [hk];rfl) (ze (show (m.kind == 8)=true by rw [hk];rfl) (ze (show (m.kind == 9)=false by rw [hk];rfl) (ze (show (m.kind == 10)=false by rw [hk];rfl) (ze (show (m.kind == 11)=false by rw [hk];rfl) (show (m.kind == 12)=false by rw [hk];rfl))))))))))))) ?_
  refine ⟨bcs1 _,by simp,by omega,?_⟩
  refine zw hl ?_
  rw [h2,h1] at hK
  exact hK
 ·have h1':(zba (zcu m) != 0)=true:=by simp [h1]
  have h2:zfc m = []:=by simp [zfc,h1]
  rw [if_neg h1]
  refine zB h1' ?_
  refine zw hl ?_
  rw [h2] at hK
  exact hK
theorem c_auOwn7 {σ:List zh} {m:zee} {c:zU} (hk:m.kind=7) (hc:m.changes = [c]) {K:KT} (hK:K (.agg [.d (.int .i64 (ownS m).key),.d (.int .i64 (ownS m).dig)]) σ):zo Tryz.prog ztB [zge m] σ K:=by
 refine zd zyK.is rfl fun hl _=>zyK.goes ?_
 have hgx:(zan m.changes)[0]? = some (zaE c):=by rw [hc];rfl
 have hgl:(zan m.changes).length=1:=by rw [hc];rfl
 simp only [zzw,iN,bT,bF,eN]
 refine zhH (ze (show (m.kind == 1)=false by rw [hk];rfl) (ze (show (m.kind == 2)=false by rw [hk];rfl) (ze (show (m.kind == 3)=false by rw [hk];rfl) (ze (show (m.kind == 4)=false by rw [hk];rfl) (ze (show (m.kind == 5)=false by rw [hk];rfl) (ze (show (m.kind == 6)=false by rw [hk];rfl) (ze (show (m.kind == 7)=true by rw [hk];rfl) (ze (show (m.kind == 8)=false by rw [hk];rfl) (ze (show (m.kind == 9)=false by rw [hk];rfl) (ze (show (m.kind == 10)=false by rw [hk];rfl) (ze (show (m.kind == 11)=false by rw [hk];rfl) (ze (show (m.kind == 12)=false by rw [hk];rfl) (ze hgx hgl))))))))))))) ?_
 refine zw hl ?_
 simp only [ownS,hk,if_true,hc] at hK
 exact hK
theorem c_auChange {σ:List zh} {c:zU} {K:KT} (hK:K (zge (vcM c)) σ):zo Tryz.prog znf [.agg (zbK c)] σ K:=by
 refine zd zsD.is rfl fun hl _=>zsD.goes ?_
 simp only [ztb,iN,bT,bF,eN]
 refine zab ?_
 refine zw hl ?_
 exact hK
end Go.Proofs.YtpgahkdjkanblaaGreat

/- Contracts: votes, the document's. -/
set_option maxRecDepth 100000
namespace Go.Proofs.YtpgahkdjkanblaaGreat
open Go.AW
theorem zAk {σ:List zh} {x:Int} {K:KT} (hK:K (.d (.bool (zla x))) σ):zo Tryz.prog zmg [.d (.int .i64 x)] σ K:=by
 refine zd e_r11_num.is rfl fun hl _=>e_r11_num.goes ?_
 have fin:∀ z,zla x=z->K (.d (.bool z)) σ:=fun z h=>h ▸ hK
 clear hK
 simp only [S_r11_num,iN,bT,bF,eN]
 cases h1:decide (x ≥ 0)
 ·refine zB h1 ?_
  refine zw hl ?_
  exact fin _ (by simp at h1;simp [zla];omega)
 ·refine zB h1 ?_
  refine zw hl ?_
  exact fin _ (by simp at h1;simp [zla];omega)
theorem c_raMay {σ:List zh} {a b c d:Int} {K:KT} (hK:K (.d (.bool (zvi a b c d))) σ) :
  zo Tryz.prog zsb [.d (.int .i64 a),.d (.int .i64 b),.d (.int .i64 c),.d (.int .i64 d)] σ K:=by
 refine zd e_r11_may.is rfl fun hl _=>e_r11_may.goes ?_
 have fin:∀ z,zvi a b c d=z->K (.d (.bool z)) σ:=fun z h=>h ▸ hK
 clear hK
 simp only [S_r11_may,iN,bT,bF,eN]
 refine zab ?_
 refine zAk ?_
 cases h1:zla a
 ·refine zab ?_
  refine zw hl ?_
  exact fin _ (by simp [zvi,h1])
 refine zab ?_
 refine zAk ?_
 cases h2:zla b
 ·refine zab ?_
  refine zw hl ?_
  exact fin _ (by simp [zvi,h1,h2])
 refine zab ?_
 refine zAk ?_
 cases h3:zla c
 ·refine zab ?_
  refine zw hl ?_
  exact fin _ (by simp [zvi,h1,h2,h3])
 refine zab ?_
 refine zAk ?_
 refine zab ?_
 refine zw hl ?_
 exact fin _ (by simp [zvi,h1,h2,h3])
theorem zAj {σ:List zh} {b:List UInt8} {x:Int} (hb:b.length<=1000000) (h0:0<=x) (h1:x<=9007199254740992) {K:KT} (hK:K (.d (.slice (bcs (b++zcI x.toNat)))) σ) :
  zo Tryz.prog zfT [.d (.slice (bcs b)),.d (.int .i64 x)] σ K:=by
 refine zd e_r11_put.is rfl fun hl _=>e_r11_put.goes ?_
 have hm1:(if 0 > x then 0 else x)=x:=by split <;> omega
 have hm2:(if x<0 then 0 else x)=x:=by split <;> omega
 have hw:IntKind.u64.wrap x=((x.toNat:Nat):Int):=by
  rw [show x=((x.toNat:Nat):Int) by omega,zdq (by omega)];rfl
 simp only [S_r11_put,iN,bT,bF,eN]
 refine zB (ze hm1 (ze hm2 hw)) ?_
 refine zgd (by omega) (by omega) ?_
 refine zab ?_
 refine zw hl ?_
 exact hK
theorem zsF {σ:List zh} {a b c d:Int} (h:zvi a b c d=true) {K:KT} (hK:K (.d (.slice (bcs (zkf a b c d)))) σ) :
  zo Tryz.prog zdT [.d (.int .i64 a),.d (.int .i64 b),.d (.int .i64 c),.d (.int .i64 d)] σ K:=by
 refine zd zpm.is rfl fun hl _=>zpm.goes ?_
 simp only [zvi,Bool.and_eq_true,zvF] at h
 obtain ⟨⟨a0,a1⟩,⟨b0,b1⟩,⟨c0,c1⟩,⟨d0,d1⟩⟩:=h
 have l1:=zp (n:=a.toNat) (by omega)
 have l2:=zp (n:=b.toNat) (by omega)
 have l3:=zp (n:=c.toNat) (by omega)
 simp only [zpL,iN,bT,bF,eN]
 refine zab ?_
 refine zAj (b := [4]) (by simp) a0 a1 ?_
 obtain ⟨B1,hB1⟩:∃ B,[4]++zcI a.toNat=B:=⟨_,rfl⟩
 have n1:B1.length<=11:=by rw [← hB1];simp;omega
 rw [hB1]
 refine zab ?_
 refine zAj (by omega) b0 b1 ?_
 obtain ⟨B2,hB2⟩:∃ B,B1++zcI b.toNat=B:=⟨_,rfl⟩
 have n2:B2.length<=21:=by rw [← hB2];simp;omega
 rw [hB2]
 refine zab ?_
 refine zAj (by omega) c0 c1 ?_
 obtain ⟨B3,hB3⟩:∃ B,B2++zcI c.toNat=B:=⟨_,rfl⟩
 have n3:B3.length<=31:=by rw [← hB3];simp;omega
 rw [hB3]
 refine zab ?_
 refine zAj (by omega) d0 d1 ?_
 refine zab ?_
 refine zw hl ?_
 rw [show B3++zcI d.toNat=zkf a b c d by rw [← hB3, ← hB2, ← hB1];simp [zkf,zaV]]
 exact hK
def zvy (L:List (List UInt8)) (key:Int) (b:List UInt8):Int:=if zoJ L b=0 then 6 else zjh key (zoJ L b)
def sgnS (L:List (List UInt8)) (key:Int) (b:List UInt8):zK:=if zoJ L b=0 then ⟨0, 0⟩ else signR key (zoJ L b)
def zmO (L:List (List UInt8)) (G:List zK) (key:Int) (b:List UInt8):List zK:=if zoJ L b=0 then G else zjg G key (zoJ L b)
theorem c_raSign {σ:List zh} {id id2:Nat} {L:List (List UInt8)} {G:List zK} {key:Int} {b:List UInt8} (hT : σ[id]? = some (rtO L)) (hG : σ[id2]? = some (rlO G)) (h1:id ≠ id2) (hbl:b.length<=1073741824) (hl0:L.length<=1048576) (hg:G.length<=1073741824)
  {K:KT}
  (hK:K (.tup [zoq (sgnS L key b),.d (.int .i64 (zvy L key b))]) ((σ.set id (rtO (zgz L b))).set id2 (rlO (zmO L G key b)))) :
  zo Tryz.prog zqg [.box id 0,.box id2 0,.d (.int .i64 key),.d (.slice (bcs b))] σ K:=by
 refine zd zyw.is rfl fun hl _=>zyw.goes ?_
 simp only [zzi,iN,bT,bF,eN]
 refine zab ?_
 refine c_rtSum (zx hT) hbl hl0 ?_
 rw [zbS hT]
 have hl1:ziu σ.length (σ.set id (rtO (zgz L b))):=hl.setO (zmQ _ _)
 have hs1:(σ.set id (rtO (zgz L b))).length = σ.length:=by simp
 have hG1:(σ.set id (rtO (zgz L b)))[id2]? = some (rlO G):=by rw [List.getElem?_set_ne h1];exact hG
 obtain ⟨S1,hS1⟩:∃ S1, σ.set id (rtO (zgz L b))=S1:=⟨_,rfl⟩
 rw [hS1] at hK hG1 hs1 hl1 ⊢
 have r1 : σ.length=S1.length:=hs1.symm
 rw [r1] at hl1
 by_cases hz:zoJ L b=0
 ·have hq:(zoJ L b == 0)=true:=by simpa using hz
  simp only [zvy,sgnS,zmO,if_pos hz,zoq] at hK
  rw [zcz hG1] at hK
  refine zB (ze hq r1) ?_
  refine zcE rfl ?_ hl1 ?_
  ·simp [zfO,dmT,dm,dm1,zcO,zaU,zdv]
  ·exact hK
 ·have hq:(zoJ L b == 0)=false:=by simpa using hz
  simp only [zvy,sgnS,zmO,if_neg hz] at hK
  refine zB (ze hq r1) ?_
  refine c_rgSign (zx hG1) hg ?_
  rw [zbS hG1]
  have hl2:ziu S1.length (S1.set id2 (rlO (zjg G key (zoJ L b)))):=hl1.setO (ztm _ _)
  have hs2:(S1.set id2 (rlO (zjg G key (zoJ L b)))).length=S1.length:=by simp
  obtain ⟨S2,hS2⟩:∃ S2,S1.set id2 (rlO (zjg G key (zoJ L b)))=S2:=⟨_,rfl⟩
  rw [hS2] at hK hs2 hl2 ⊢
  have r3:S1.length=S2.length:=hs2.symm
  have r2 : σ.length=S2.length:=r1.trans r3
  rw [r3] at hl2
  simp only [zoq] at hK ⊢
  refine zB (ze r2 r3) ?_
  refine zcE rfl ?_ hl2 ?_
  ·simp [zfO,dmT,dm,dm1,zcO,zaU,zdv]
  ·exact hK
def votE (L:List (List UInt8)) (key a b c d:Int):Int:=if zvi a b c d=true then zvy L key (zkf a b c d) else 1
def votS (L:List (List UInt8)) (key a b c d:Int):zK:=if zvi a b c d=true then sgnS L key (zkf a b c d) else ⟨0, 0⟩
def votL (L:List (List UInt8)) (a b c d:Int):List (List UInt8):=if zvi a b c d=true then zgz L (zkf a b c d) else L
def votG (L:List (List UInt8)) (G:List zK) (key a b c d:Int):List zK:=if zvi a b c d=true then zmO L G key (zkf a b c d) else G
theorem c_raVote {σ:List zh} {id id2:Nat} {L:List (List UInt8)} {G:List zK} {key a b c d:Int} (hT : σ[id]? = some (rtO L)) (hG : σ[id2]? = some (rlO G)) (h1:id ≠ id2) (hl0:L.length<=1048576) (hg:G.length<=1073741824)
  {K:KT}
  (hK:K (.tup [zoq (votS L key a b c d),.d (.int .i64 (votE L key a b c d))]) ((σ.set id (rtO (votL L a b c d))).set id2 (rlO (votG L G key a b c d)))) :
  zo Tryz.prog ztu [.box id 0,.box id2 0,.d (.int .i64 key),.d (.int .i64 a),.d (.int .i64 b),.d (.int .i64 c),.d (.int .i64 d)] σ K:=by
 refine zd zyx.is rfl fun hl _=>zyx.goes ?_
 simp only [zzj,iN,bT,bF,eN]
 refine zab ?_
 refine c_raMay ?_
 cases hm:zvi a b c d
 ·simp only [votS,votE,votL,votG,hm,Bool.false_eq_true,if_false,zoq] at hK
  rw [zcz hT,zcz hG] at hK
  refine zab ?_
  refine zw hl ?_
  exact hK
 ·simp only [votS,votE,votL,votG,hm,if_true] at hK
  have hbl:=zvq hm
  refine zab ?_
  refine zsF hm ?_
  refine zab ?_
  refine c_raSign (zx hT) (zx hG) h1 (by omega) hl0 hg ?_
  rw [zbS hT,zbS (by rw [List.getElem?_set_ne h1];exact hG)]
  have hl2:ziu σ.length ((σ.set id (rtO (zgz L (zkf a b c d)))).set id2 (rlO (zmO L G key (zkf a b c d)))):=(hl.setO (zmQ _ _)).setO (ztm _ _)
  have hs2:((σ.set id (rtO (zgz L (zkf a b c d)))).set id2 (rlO (zmO L G key (zkf a b c d)))).length = σ.length:=by simp
  obtain ⟨S2,hS2⟩:∃ S2,(σ.set id (rtO (zgz L (zkf a b c d)))).set id2 (rlO (zmO L G key (zkf a b c d)))=S2:=⟨_,rfl⟩
  rw [hS2] at hK hs2 hl2 ⊢
  have r3 : σ.length=S2.length:=hs2.symm
  rw [r3] at hl2
  simp only [zoq] at hK ⊢
  refine zB r3 ?_
  refine zcE rfl ?_ hl2 ?_
  ·simp [zfO,dmT,dm,dm1,zcO,zaU,zdv]
  ·exact hK
end Go.Proofs.YtpgahkdjkanblaaGreat
