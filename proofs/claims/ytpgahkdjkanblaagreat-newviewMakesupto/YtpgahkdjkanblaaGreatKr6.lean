/- Contracts: which view-changes and new views are signed, the document's. -/
import Derived.Test.YtpgahkdjkanblaaGreatPr4
set_option linter.all false
set_option maxRecDepth 100000
namespace Go.Proofs.YtpgahkdjkanblaaGreat
open Go.AW
theorem c_kCheck7 {σ:List zh} {m:zee} (hm:zbP m) (hk:m.kind=7) {K:KT} (hK:K (.d (.int .i64 (zaN m))) σ):zo Tryz.prog zko [zge m] σ K:=by
 refine zd znl.is rfl fun hl _=>znl.goes ?_
 have fin:∀ z,zaN m=z->K (.d (.int .i64 z)) σ:=fun z h=>h ▸ hK
 clear hK
 simp only [zrK,iN,bT,bF,eN]
 refine zab ?_
 refine c_kParts7 (m:=m) hm hk ?_
 cases h1:(zbn (zfK m) != 0)
 rotate_left
 ·refine zB h1 ?_
  refine zw hl ?_
  exact fin _ (by simp at h1;simp [zaN,h1])
 refine zB h1 ?_
 refine c_kOnly7 (m:=m) hk ?_
 refine zab ?_
 refine c_kSame (a:=m) (b:=zmD m) hm (zqw hm) ?_
 cases h2:decide (m=zmD m)
 ·refine zab ?_
  refine zw hl ?_
  exact fin _ (by simp at h1 h2;simp [zaN,h1,h2])
 ·refine zab ?_
  refine zw hl ?_
  exact fin _ (by simp at h1 h2;simp [zaN,h1, ← h2])
theorem c_kCheck8 {σ:List zh} {m:zee} (hm:zbP m) (hk:m.kind=8) {K:KT} (hK:K (.d (.int .i64 (zaN m))) σ):zo Tryz.prog zko [zge m] σ K:=by
 refine zd znl.is rfl fun hl _=>znl.goes ?_
 have fin:∀ z,zaN m=z->K (.d (.int .i64 z)) σ:=fun z h=>h ▸ hK
 clear hK
 simp only [zrK,iN,bT,bF,eN]
 refine zab ?_
 refine c_kParts8 (m:=m) hm hk ?_
 cases h1:(zbn (zfK m) != 0)
 rotate_left
 ·refine zB h1 ?_
  refine zw hl ?_
  exact fin _ (by simp at h1;simp [zaN,h1])
 refine zB h1 ?_
 refine c_kOnly8 (m:=m) hk ?_
 refine zab ?_
 refine c_kSame (a:=m) (b:=zmD m) hm (zqw hm) ?_
 cases h2:decide (m=zmD m)
 ·refine zab ?_
  refine zw hl ?_
  exact fin _ (by simp at h1 h2;simp [zaN,h1,h2])
 ·refine zab ?_
  refine zw hl ?_
  exact fin _ (by simp at h1 h2;simp [zaN,h1, ← h2])
theorem c_kBytes7 {σ:List zh} {m:zee} (hm:zbP m) (hk:m.kind=7) {K:KT} (hK:K (.tup [.d (.slice (bcs (zhq m))),.d (.int .i64 (zba m))]) σ) :
  zo Tryz.prog zmV [zge m] σ K:=by
 refine zd znm.is rfl fun hl _=>znm.goes ?_
 have fin:∀ x z,zhq m=x->zba m=z->K (.tup [.d (.slice (bcs x)),.d (.int .i64 z)]) σ:=fun x z h h'=>h ▸ h' ▸ hK
 clear hK
 simp only [zrL,iN,bT,bF,eN]
 refine zab ?_
 refine c_kCheck7 (m:=m) hm hk ?_
 cases h1:(zaN m != 0)
 rotate_left
 ·have h1':zaN m ≠ 0:=by simpa using h1
  have e1:zba m=zaN m:=by simp [zba,h1']
  have e2:zhq m = []:=by simp [zhq,e1,h1']
  refine zB h1 ?_
  refine zw hl ?_
  exact fin _ _ e2 e1
 have h1':zaN m=0:=by simpa using h1
 obtain ⟨c,hc,he⟩:=check7 hk h1'
 obtain ⟨he1,he2⟩:=zkJ he
 have hgx:(zan m.changes)[0]? = some (zaE c):=by rw [hc];rfl
 have hgl:(zan m.changes).length=1:=by rw [hc];rfl
 have n0:=zp (n:=m.kind.toNat) (by omega)
 have n1:=zpB he1
 have hu:zkb m=zcI m.kind.toNat++ztT c:=by simp [zkb,hk,hc]
 have hf:zlc m=zkb m++zfR c.key c.dig:=by simp [zlc,ownS,hk,hc]
 have hsb:zbR c.key c.dig=zfR c.key c.dig:=by simp [zbR,he2]
 refine zB h1 ?_
 refine c_kBody7 (m:=m) (c:=c) hk hc he1 ?_
 refine zhH (zn (show (m.kind == 1)=false by rw [hk];rfl) (zn (show (m.kind == 2)=false by rw [hk];rfl) (zn (show (m.kind == 3)=false by rw [hk];rfl) (zn (show (m.kind == 4)=false by rw [hk];rfl) (zn (show (m.kind == 5)=false by rw [hk];rfl) (zn (show (m.kind == 6)=false by rw [hk];rfl) (zn (show (m.kind == 7)=true by rw [hk];rfl) (zn (show (m.kind == 8)=false by rw [hk];rfl) (zn (show (m.kind == 9)=false by rw [hk];rfl) (zn (show (m.kind == 10)=false by rw [hk];rfl) (zn (show (m.kind == 11)=false by rw [hk];rfl) (zn (show (m.kind == 12)=false by rw [hk];rfl) (zn hgx hgl))))))))))))) ?_
 refine ziq (b:=zkb m) (by rw [hu];simp only [List.length_append];omega) ?_
 rw [hsb, ← hf]
 refine zab ?_
 refine c_kShort (b:=zlc m) ?_
 by_cases hlen:(zlc m).length > 262144
 ·have e1:zba m=3:=by simp only [zba,h1',ne_eq,not_true,if_false,hlen,if_true]
  have e2:zhq m = []:=by simp [zhq,e1]
  rw [if_pos hlen,if_pos hlen]
  refine zab ?_
  refine zw hl ?_
  exact fin _ _ e2 e1
 ·have e1:zba m=0:=by simp only [zba,h1',ne_eq,not_true,if_false,hlen]
  have e2:zhq m=zlc m:=by simp [zhq,e1]
  rw [if_neg hlen,if_neg hlen]
  refine zab ?_
  refine zw hl ?_
  exact fin _ _ e2 e1
theorem c_kBytes8 {σ:List zh} {m:zee} (hm:zbP m) (hk:m.kind=8) {K:KT} (hK:K (.tup [.d (.slice (bcs (zhq m))),.d (.int .i64 (zba m))]) σ) :
  zo Tryz.prog zmV [zge m] σ K:=by
 refine zd znm.is rfl fun hl _=>znm.goes ?_
 have fin:∀ x z,zhq m=x->zba m=z->K (.tup [.d (.slice (bcs x)),.d (.int .i64 z)]) σ:=fun x z h h'=>h ▸ h' ▸ hK
 clear hK
 simp only [zrL,iN,bT,bF,eN]
 refine zab ?_
 refine c_kCheck8 (m:=m) hm hk ?_
 cases h1:(zaN m != 0)
 rotate_left
 ·have h1':zaN m ≠ 0:=by simpa using h1
  have e1:zba m=zaN m:=by simp [zba,h1']
  have e2:zhq m = []:=by simp [zhq,e1,h1']
  refine zB h1 ?_
  refine zw hl ?_
  exact fin _ _ e2 e1
 have h1':zaN m=0:=by simpa using h1
 obtain ⟨he1,he2⟩:=check8 hk h1'
 have n0:=zp (n:=m.kind.toNat) (by omega)
 have n1:=newvB_len he1
 have hu:zkb m=zcI m.kind.toNat++newvB m:=by simp [zkb,hk]
 have hf:zlc m=zkb m++zfR m.key m.sdig:=by simp [zlc,ownS,hk]
 have hsb:zbR m.key m.sdig=zfR m.key m.sdig:=by simp [zbR,he2]
 refine zB h1 ?_
 refine c_kBody8 (m:=m) hk he1 ?_
 refine zB (zn (show (m.kind == 1)=false by rw [hk];rfl) (zn (show (m.kind == 2)=false by rw [hk];rfl) (zn (show (m.kind == 3)=false by rw [hk];rfl) (zn (show (m.kind == 4)=false by rw [hk];rfl) (zn (show (m.kind == 5)=false by rw [hk];rfl) (zn (show (m.kind == 6)=false by rw [hk];rfl) (zn (show (m.kind == 7)=false by rw [hk];rfl) (zn (show (m.kind == 8)=true by rw [hk];rfl) (zn (show (m.kind == 9)=false by rw [hk];rfl) (zn (show (m.kind == 10)=false by rw [hk];rfl) (zn (show (m.kind == 11)=false by rw [hk];rfl) (show (m.kind == 12)=false by rw [hk];rfl)))))))))))) ?_
 refine ziq (b:=zkb m) (by rw [hu];simp only [List.length_append];omega) ?_
 rw [hsb, ← hf]
 refine zab ?_
 refine c_kShort (b:=zlc m) ?_
 by_cases hlen:(zlc m).length > 262144
 ·have e1:zba m=3:=by simp only [zba,h1',ne_eq,not_true,if_false,hlen,if_true]
  have e2:zhq m = []:=by simp [zhq,e1]
  rw [if_pos hlen,if_pos hlen]
  refine zab ?_
  refine zw hl ?_
  exact fin _ _ e2 e1
 ·have e1:zba m=0:=by simp only [zba,h1',ne_eq,not_true,if_false,hlen]
  have e2:zhq m=zlc m:=by simp [zhq,e1]
  rw [if_neg hlen,if_neg hlen]
  refine zab ?_
  refine zw hl ?_
  exact fin _ _ e2 e1
theorem c_kUnsigned7 {σ:List zh} {m:zee} {c:zU} (hm:zbP m) (hk:m.kind=7) (hc:m.changes = [c]) {K:KT}
  (hK:K (.tup [.d (.slice (bcs (if zba (zcu m)=0 then zkb (zcu m) else []))),.d (.int .i64 (zba (zcu m)))]) σ):zo Tryz.prog ziA [zge m] σ K:=by
 refine zd ziE.is rfl fun hl _=>ziE.goes ?_
 have hgx:(zan m.changes)[0]? = some (zaE c):=by rw [hc];rfl
 have hgl:(zan m.changes).length=1:=by rw [hc];rfl
 have hs:=zxM hm hc
 rw [some7 hk hc] at hK
 simp only [zlU,iN,bT,bF,eN]
 refine zhH (zn (show (m.kind == 1)=false by rw [hk];rfl) (zn (show (m.kind == 2)=false by rw [hk];rfl) (zn (show (m.kind == 3)=false by rw [hk];rfl) (zn (show (m.kind == 4)=false by rw [hk];rfl) (zn (show (m.kind == 5)=false by rw [hk];rfl) (zn (show (m.kind == 6)=false by rw [hk];rfl) (zn (show (m.kind == 7)=true by rw [hk];rfl) (zn (show (m.kind == 8)=false by rw [hk];rfl) (zn (show (m.kind == 9)=false by rw [hk];rfl) (zn (show (m.kind == 10)=false by rw [hk];rfl) (zn (show (m.kind == 11)=false by rw [hk];rfl) (zn (show (m.kind == 12)=false by rw [hk];rfl) (zn hgx hgl))))))))))))) ?_
 refine c_kBytes7 (m:=uns7 m c) hs hk ?_
 by_cases h1:zba (uns7 m c)=0
 ·have h1':(zba (uns7 m c) != 0)=false:=by simp [h1]
  have h2:zaN (uns7 m c)=0:=by
   unfold zba at h1
   split at h1
   ·rename_i hh;exact absurd h1 hh
   ·rename_i hh;simpa using hh
  obtain ⟨c',hc',he⟩:=check7 (m:=uns7 m c) hk h2
  obtain ⟨he1,he2⟩:=zkJ he
  refine zB h1' ?_
  refine c_kBody7 (m:=uns7 m c) (c:=c') hk hc' he1 ?_
  refine zab ?_
  refine zw hl ?_
  rw [if_pos h1,h1] at hK
  exact hK
 ·have h1':(zba (uns7 m c) != 0)=true:=by simp [h1]
  refine zB h1' ?_
  refine zw hl ?_
  rw [if_neg h1] at hK
  exact hK
theorem c_kUnsigned8 {σ:List zh} {m:zee} (hm:zbP m) (hk:m.kind=8) {K:KT}
  (hK:K (.tup [.d (.slice (bcs (if zba (zcu m)=0 then zkb (zcu m) else []))),.d (.int .i64 (zba (zcu m)))]) σ):zo Tryz.prog ziA [zge m] σ K:=by
 refine zd ziE.is rfl fun hl _=>ziE.goes ?_
 have hs:=zxL hm
 rw [some8 hk] at hK
 simp only [zlU,iN,bT,bF,eN]
 refine zB (zn (show (m.kind == 1)=false by rw [hk];rfl) (zn (show (m.kind == 2)=false by rw [hk];rfl) (zn (show (m.kind == 3)=false by rw [hk];rfl) (zn (show (m.kind == 4)=false by rw [hk];rfl) (zn (show (m.kind == 5)=false by rw [hk];rfl) (zn (show (m.kind == 6)=false by rw [hk];rfl) (zn (show (m.kind == 7)=false by rw [hk];rfl) (zn (show (m.kind == 8)=true by rw [hk];rfl) (zn (show (m.kind == 9)=false by rw [hk];rfl) (zn (show (m.kind == 10)=false by rw [hk];rfl) (zn (show (m.kind == 11)=false by rw [hk];rfl) (show (m.kind == 12)=false by rw [hk];rfl)))))))))))) ?_
 refine c_kSigned ?_
 refine zB (zn (show zvE m.kind=true by rw [hk];rfl) (zn (show (m.kind == 1)=false by rw [hk];rfl) (zn (show (m.kind == 2)=false by rw [hk];rfl) (zn (show (m.kind == 3)=false by rw [hk];rfl) (zn (show (m.kind == 4)=false by rw [hk];rfl) (zn (show (m.kind == 5)=false by rw [hk];rfl) (zn (show (m.kind == 6)=false by rw [hk];rfl) (zn (show (m.kind == 7)=false by rw [hk];rfl) (zn (show (m.kind == 8)=true by rw [hk];rfl) (zn (show (m.kind == 9)=false by rw [hk];rfl) (zn (show (m.kind == 10)=false by rw [hk];rfl) (zn (show (m.kind == 11)=false by rw [hk];rfl) (show (m.kind == 12)=false by rw [hk];rfl))))))))))))) ?_
 refine c_kBytes8 (m:=uns8 m) hs hk ?_
 by_cases h1:zba (uns8 m)=0
 ·have h1':(zba (uns8 m) != 0)=false:=by simp [h1]
  have h2:zaN (uns8 m)=0:=by
   unfold zba at h1
   split at h1
   ·rename_i hh;exact absurd h1 hh
   ·rename_i hh;simpa using hh
  obtain ⟨he1,he2⟩:=check8 (m:=uns8 m) hk h2
  refine zB h1' ?_
  refine c_kBody8 (m:=uns8 m) hk he1 ?_
  refine zab ?_
  refine zw hl ?_
  rw [if_pos h1,h1] at hK
  exact hK
 ·have h1':(zba (uns8 m) != 0)=true:=by simp [h1]
  refine zB h1' ?_
  refine zw hl ?_
  rw [if_neg h1] at hK
  exact hK
theorem c_raContent7 {σ:List zh} {m:zee} {c:zU} (hm:zbP m) (hk:m.kind=7) (hc:m.changes = [c]) {K:KT}
  (hK:K (.tup [.d (.slice (bcs (zfc m))),.d (.int .i64 (zba (zcu m)))]) σ):zo Tryz.prog zhe [zge m] σ K:=by
 refine zd zjU.is rfl fun hl _=>zjU.goes ?_
 simp only [znw,iN,bT,bF,eN]
 refine zab ?_
 refine c_kUnsigned7 (m:=m) hm hk hc ?_
 by_cases h1:zba (zcu m)=0
 ·have h1':(zba (zcu m) != 0)=false:=by simp [h1]
  have h2:zfc m=6 :: zkb (zcu m):=by simp [zfc,h1]
  have hlen:=zvr h1
  rw [if_pos h1]
  refine zB (zn h1' (zn (show (m.kind == 1)=false by rw [hk];rfl) (zn (show (m.kind == 2)=false by rw [hk];rfl) (zn (show (m.kind == 3)=false by rw [hk];rfl) (zn (show (m.kind == 4)=false by rw [hk];rfl) (zn (show (m.kind == 5)=false by rw [hk];rfl) (zn (show (m.kind == 6)=false by rw [hk];rfl) (zn (show (m.kind == 7)=true by rw [hk];rfl) (zn (show (m.kind == 8)=false by rw [hk];rfl) (zn (show (m.kind == 9)=false by rw [hk];rfl) (zn (show (m.kind == 10)=false by rw [hk];rfl) (zn (show (m.kind == 11)=false by rw [hk];rfl) (show (m.kind == 12)=false by rw [hk];rfl))))))))))))) ?_
  refine ⟨bcs1 _,by simp,by omega,?_⟩
  refine zw hl ?_
  rw [h2,h1] at hK
  exact hK
 ·have h1':(zba (zcu m) != 0)=true:=by simp [h1]
  have h2:zfc m = []:=by simp [zfc,h1]
  rw [if_neg h1]
  refine zB h1' ?_
  refine zw hl ?_
  rw [h2] at hK
  exact hK
theorem c_raContent8 {σ:List zh} {m:zee} (hm:zbP m) (hk:m.kind=8) {K:KT}
  (hK:K (.tup [.d (.slice (bcs (zfc m))),.d (.int .i64 (zba (zcu m)))]) σ):zo Tryz.prog zhe [zge m] σ K:=by
 refine zd zjU.is rfl fun hl _=>zjU.goes ?_
 simp only [znw,iN,bT,bF,eN]
 refine zab ?_
 refine c_kUnsigned8 (m:=m) hm hk ?_
 by_cases h1:zba (zcu m)=0
 ·have h1':(zba (zcu m) != 0)=false:=by simp [h1]
  have h2:zfc m=6 :: zkb (zcu m):=by simp [zfc,h1]
  have hlen:=zvr h1
  rw [if_pos h1]
  refine zB (zn h1' (zn (show (m.kind == 1)=false by rw [hk];rfl) (zn (show (m.kind == 2)=false by rw [hk];rfl) (zn (show (m.kind == 3)=false by rw [hk];rfl) (zn (show (m.kind == 4)=false by rw [hk];rfl) (zn (show (m.kind == 5)=false by rw [hk];rfl) (zn (show (m.kind == 6)=false by rw [hk];rfl) (zn (show (m.kind == 7)=false by rw [hk];rfl) (zn (show (m.kind == 8)=true by rw [hk];rfl) (zn (show (m.kind == 9)=false by rw [hk];rfl) (zn (show (m.kind == 10)=false by rw [hk];rfl) (zn (show (m.kind == 11)=false by rw [hk];rfl) (show (m.kind == 12)=false by rw [hk];rfl))))))))))))) ?_
  refine ⟨bcs1 _,by simp,by omega,?_⟩
  refine zw hl ?_
  rw [h2,h1] at hK
  exact hK
 ·have h1':(zba (zcu m) != 0)=true:=by simp [h1]
  have h2:zfc m = []:=by simp [zfc,h1]
  rw [if_neg h1]
  refine zB h1' ?_
  refine zw hl ?_
  rw [h2] at hK
  exact hK
theorem c_raOf7 {σ:List zh} {m:zee} {c:zU} (hk:m.kind=7) (hc:m.changes = [c]) {K:KT} (hK:K (.agg [.d (.int .i64 (ownS m).key),.d (.int .i64 (ownS m).dig)]) σ):zo Tryz.prog zzM [zge m] σ K:=by
 refine zd e_r11_of.is rfl fun hl _=>e_r11_of.goes ?_
 have hgx:(zan m.changes)[0]? = some (zaE c):=by rw [hc];rfl
 have hgl:(zan m.changes).length=1:=by rw [hc];rfl
 simp only [S_r11_of,iN,bT,bF,eN]
 refine zhH (zn (show (m.kind == 1)=false by rw [hk];rfl) (zn (show (m.kind == 2)=false by rw [hk];rfl) (zn (show (m.kind == 3)=false by rw [hk];rfl) (zn (show (m.kind == 4)=false by rw [hk];rfl) (zn (show (m.kind == 5)=false by rw [hk];rfl) (zn (show (m.kind == 6)=false by rw [hk];rfl) (zn (show (m.kind == 7)=true by rw [hk];rfl) (zn (show (m.kind == 8)=false by rw [hk];rfl) (zn (show (m.kind == 9)=false by rw [hk];rfl) (zn (show (m.kind == 10)=false by rw [hk];rfl) (zn (show (m.kind == 11)=false by rw [hk];rfl) (zn (show (m.kind == 12)=false by rw [hk];rfl) (zn hgx (zn hgl (show decide (((1:Nat):Int) > 0)=true from rfl))))))))))))))) ?_
 refine zw hl ?_
 simp only [ownS,hk,if_true,hc] at hK
 exact hK
theorem c_raChange {σ:List zh} {c:zU} {K:KT} (hK:K (zge (vcM c)) σ):zo Tryz.prog zoT [.agg (zbK c)] σ K:=by
 refine zd zuu.is rfl fun hl _=>zuu.goes ?_
 simp only [zuK,iN,bT,bF,eN]
 refine zab ?_
 refine zw hl ?_
 exact hK
theorem c_raValid7 {σ:List zh} {id id2:Nat} {L:List (List UInt8)} {G:List zK} {M:zee} {c:zU} (hT : σ[id]? = some (rtO L)) (hG : σ[id2]? = some (rlO G)) (hL:L.length<=1048576) (hg:G.length<=1073741824) (hm:zbP M) (hk:M.kind=7) (hc:M.changes = [c]) {K:KT}
  (hK:K (.d (.bool (zid L G M))) σ):zo Tryz.prog zrm [.box id 0,.box id2 0,zge M] σ K:=by
 refine zd zwh.is rfl fun hl _=>zwh.goes ?_
 have fin:∀ z,zid L G M=z->K (.d (.bool z)) σ:=fun z h=>h ▸ hK
 clear hK
 have hT1:=fun τ=>zx (τ := τ) hT
 have hG1:=fun τ=>zx (τ := τ) hG
 simp only [zwZ,iN,bT,bF,eN]
 refine zab ?_
 refine c_raContent7 (m:=M) hm hk hc ?_
 cases h2:(zba (zcu M) != 0)
 rotate_left
 ·refine zB h2 ?_
  refine zw hl ?_
  exact fin _ (by simp at h2;simp [zid,h2])
 have h2':zba (zcu M)=0:=by simpa using h2
 have hcb:zfc M=6 :: zkb (zcu M):=by simp [zfc,h2']
 rw [hcb]
 refine zB h2 ?_
 refine c_kCheck7 (m:=M) hm hk ?_
 cases h1:(zaN M != 0)
 rotate_left
 ·refine zB h1 ?_
  refine zw hl ?_
  exact fin _ (by simp at h1;simp [zid,h1])
 have h1':zaN M=0:=by simpa using h1
 refine zB h1 ?_
 refine c_raOf7 (m:=M) hk hc ?_
 refine zab ?_
 refine zyR (s:=ownS M) (key:=M.src) (b := 6 :: zkb (zcu M)) (hT1 _) (hG1 _) hL hg ?_
 refine zab ?_
 refine zw hl ?_
 refine fin _ ?_
 simp [zid,h1',h2',hcb]
end Go.Proofs.YtpgahkdjkanblaaGreat
