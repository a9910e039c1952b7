/- Contracts: which view-changes and new views are signed, the document's. -/
import Derived.Test.YtpgahkdjkanblaaGreatPr4
set_option linter.all false
set_option maxRecDepth 100000
namespace Go.Proofs.YtpgahkdjkanblaaGreat
open Go.AW
theorem c_kCheck7 {σ:List zd} {m:zcS} (hm:zbn m) (hk:m.kind=7) {K:KT} (hK:K (.d (.int .i64 (zaD m))) σ):zj Tryz.prog zkm [zeR m] σ K:=by
 refine zdZ zwN fun hl => ?_
 have fin:∀ z,zaD m=z->K (.d (.int .i64 z)) σ:=fun z h=>h▸hK
 clear hK
 simp only [zrz,iN,bT,bF,eN]
 refine zQ ?_
 refine c_kParts7 (m:=m) hm hk ?_
 cases h1:(zbg (zfA m) != 0)
 rotate_left
 ·refine zA h1 ?_
  refine zt hl ?_
  exact fin _ (by simp at h1;simp [zaD,h1])
 refine zA h1 ?_
 refine c_kOnly7 (m:=m) hk ?_
 refine zQ ?_
 refine c_kSame (a:=m) (b:=zmo m) hm (zpU hm) ?_
 cases h2:decide (m=zmo m)
 ·refine zQ ?_
  refine zt hl ?_
  exact fin _ (by simp at h1 h2;simp [zaD,h1,h2])
 ·refine zQ ?_
  refine zt hl ?_
  exact fin _ (by simp at h1 h2;simp [zaD,h1, ← h2])
theorem c_kCheck8 {σ:List zd} {m:zcS} (hm:zbn m) (hk:m.kind=8) {K:KT} (hK:K (.d (.int .i64 (zaD m))) σ):zj Tryz.prog zkm [zeR m] σ K:=by
 refine zdZ zwN fun hl => ?_
 have fin:∀ z,zaD m=z->K (.d (.int .i64 z)) σ:=fun z h=>h▸hK
 clear hK
 simp only [zrz,iN,bT,bF,eN]
 refine zQ ?_
 refine c_kParts8 (m:=m) hm hk ?_
 cases h1:(zbg (zfA m) != 0)
 rotate_left
 ·refine zA h1 ?_
  refine zt hl ?_
  exact fin _ (by simp at h1;simp [zaD,h1])
 refine zA h1 ?_
 refine c_kOnly8 (m:=m) hk ?_
 refine zQ ?_
 refine c_kSame (a:=m) (b:=zmo m) hm (zpU hm) ?_
 cases h2:decide (m=zmo m)
 ·refine zQ ?_
  refine zt hl ?_
  exact fin _ (by simp at h1 h2;simp [zaD,h1,h2])
 ·refine zQ ?_
  refine zt hl ?_
  exact fin _ (by simp at h1 h2;simp [zaD,h1, ← h2])
theorem c_kBytes7 {σ:List zd} {m:zcS} (hm:zbn m) (hk:m.kind=7) {K:KT} (hK:K (.tup [.d (.slice (bcs (zho m))),.d (.int .i64 (zaT m))]) σ) :
  zj Tryz.prog zmM [zeR m] σ K:=by
 refine zdZ zwO fun hl => ?_
 have fin:∀ x z,zho m=x->zaT m=z->K (.tup [.d (.slice (bcs x)),.d (.int .i64 z)]) σ:=fun x z h h'=>h▸h' ▸ hK
 clear hK
 simp only [zrA,iN,bT,bF,eN]
 refine zQ ?_
 refine c_kCheck7 (m:=m) hm hk ?_
 cases h1:(zaD m != 0)
 rotate_left
 ·have h1':zaD m≠0:=by simpa using h1
  have e1:zaT m=zaD m:=by simp [zaT,h1']
  have e2:zho m = []:=by simp [zho,e1,h1']
  refine zA h1 ?_
  refine zt hl ?_
  exact fin _ _ e2 e1
 have h1':zaD m=0:=by simpa using h1
 obtain ⟨c,hc,he⟩:=check7 hk h1'
 obtain ⟨he1,he2⟩:=zkC he
 have hgx:(zR m.changes)[0]? = some (zat c):=by rw [hc];rfl
 have hgl:(zR m.changes).length=1:=by rw [hc];rfl
 have n0:=zm (n:=m.kind.toNat) (by omega)
 have n1:=zoX he1
 have hu:zjb m=zcA m.kind.toNat++ztW c:=by simp [zjb,hk,hc]
 have hf:zla m=zjb m++zfL c.key c.dig:=by simp [zla,zuR,hk,hc]
 have hsb:zbF c.key c.dig=zfL c.key c.dig:=by simp [zbF,he2]
 refine zA h1 ?_
 refine c_kBody7 (m:=m) (c:=c) hk hc he1 ?_
 refine zfG (zi (kk7 hk) (zi hgx hgl)) ?_
 refine ziq (b:=zjb m) (by rw [hu];simp only [List.length_append];omega) ?_
 rw [hsb, ← hf]
 refine zQ ?_
 refine c_kShort (b:=zla m) ?_
 by_cases hlen:(zla m).length > 262144
 ·have e1:zaT m=3:=by simp only [zaT,h1',ne_eq,not_true,if_false,hlen,if_true]
  have e2:zho m = []:=by simp [zho,e1]
  rw [if_pos hlen,if_pos hlen]
  refine zQ ?_
  refine zt hl ?_
  exact fin _ _ e2 e1
 ·have e1:zaT m=0:=by simp only [zaT,h1',ne_eq,not_true,if_false,hlen]
  have e2:zho m=zla m:=by simp [zho,e1]
  rw [if_neg hlen,if_neg hlen]
  refine zQ ?_
  refine zt hl ?_
  exact fin _ _ e2 e1
theorem c_kBytes8 {σ:List zd} {m:zcS} (hm:zbn m) (hk:m.kind=8) {K:KT} (hK:K (.tup [.d (.slice (bcs (zho m))),.d (.int .i64 (zaT m))]) σ) :
  zj Tryz.prog zmM [zeR m] σ K:=by
 refine zdZ zwO fun hl => ?_
 have fin:∀ x z,zho m=x->zaT m=z->K (.tup [.d (.slice (bcs x)),.d (.int .i64 z)]) σ:=fun x z h h'=>h▸h' ▸ hK
 clear hK
 simp only [zrA,iN,bT,bF,eN]
 refine zQ ?_
 refine c_kCheck8 (m:=m) hm hk ?_
 cases h1:(zaD m != 0)
 rotate_left
 ·have h1':zaD m≠0:=by simpa using h1
  have e1:zaT m=zaD m:=by simp [zaT,h1']
  have e2:zho m = []:=by simp [zho,e1,h1']
  refine zA h1 ?_
  refine zt hl ?_
  exact fin _ _ e2 e1
 have h1':zaD m=0:=by simpa using h1
 obtain ⟨he1,he2⟩:=check8 hk h1'
 have n0:=zm (n:=m.kind.toNat) (by omega)
 have n1:=newvB_len he1
 have hu:zjb m=zcA m.kind.toNat++newvB m:=by simp [zjb,hk]
 have hf:zla m=zjb m++zfL m.key m.sdig:=by simp [zla,zuR,hk]
 have hsb:zbF m.key m.sdig=zfL m.key m.sdig:=by simp [zbF,he2]
 refine zA h1 ?_
 refine c_kBody8 (m:=m) hk he1 ?_
 refine zA (kk8 hk) ?_
 refine ziq (b:=zjb m) (by rw [hu];simp only [List.length_append];omega) ?_
 rw [hsb, ← hf]
 refine zQ ?_
 refine c_kShort (b:=zla m) ?_
 by_cases hlen:(zla m).length > 262144
 ·have e1:zaT m=3:=by simp only [zaT,h1',ne_eq,not_true,if_false,hlen,if_true]
  have e2:zho m = []:=by simp [zho,e1]
  rw [if_pos hlen,if_pos hlen]
  refine zQ ?_
  refine zt hl ?_
  exact fin _ _ e2 e1
 ·have e1:zaT m=0:=by simp only [zaT,h1',ne_eq,not_true,if_false,hlen]
  have e2:zho m=zla m:=by simp [zho,e1]
  rw [if_neg hlen,if_neg hlen]
  refine zQ ?_
  refine zt hl ?_
  exact fin _ _ e2 e1
theorem c_kUnsigned7 {σ:List zd} {m:zcS} {c:zJ} (hm:zbn m) (hk:m.kind=7) (hc:m.changes = [c]) {K:KT}
  (hK:K (.tup [.d (.slice (bcs (if zaT (zbJ m)=0 then zjb (zbJ m) else []))),.d (.int .i64 (zaT (zbJ m)))]) σ):zj Tryz.prog ziz [zeR m] σ K:=by
 refine zdZ zqo fun hl => ?_
 have hgx:(zR m.changes)[0]? = some (zat c):=by rw [hc];rfl
 have hgl:(zR m.changes).length=1:=by rw [hc];rfl
 have hs:=zyw hm hc
 rw [some7 hk hc] at hK
 simp only [zlI,iN,bT,bF,eN,zl4]
 refine zfG (zi (kk7 hk) (zi hgx hgl)) ?_
 refine c_kBytes7 (m:=uns7 m c) hs hk ?_
 by_cases h1:zaT (uns7 m c)=0
 ·have h1':(zaT (uns7 m c) != 0)=false:=by simp [h1]
  have h2:zaD (uns7 m c)=0:=by
   unfold zaT at h1
   split at h1
   ·rename_i hh;exact absurd h1 hh
   ·rename_i hh;simpa using hh
  obtain ⟨c',hc',he⟩:=check7 (m:=uns7 m c) hk h2
  obtain ⟨he1,he2⟩:=zkC he
  refine zA h1' ?_
  refine c_kBody7 (m:=uns7 m c) (c:=c') hk hc' he1 ?_
  refine zQ ?_
  refine zt hl ?_
  rw [if_pos h1,h1] at hK
  exact hK
 ·have h1':(zaT (uns7 m c) != 0)=true:=by simp [h1]
  refine zA h1' ?_
  refine zt hl ?_
  rw [if_neg h1] at hK
  exact hK
theorem c_kUnsigned8 {σ:List zd} {m:zcS} (hm:zbn m) (hk:m.kind=8) {K:KT}
  (hK:K (.tup [.d (.slice (bcs (if zaT (zbJ m)=0 then zjb (zbJ m) else []))),.d (.int .i64 (zaT (zbJ m)))]) σ):zj Tryz.prog ziz [zeR m] σ K:=by
 refine zdZ zqo fun hl => ?_
 have hs:=zyv hm
 rw [some8 hk] at hK
 simp only [zlI,iN,bT,bF,eN,zl4]
 refine zA (kk8 hk) ?_
 refine c_kSigned ?_
 refine zA (zi (show zvQ m.kind=true by rw [hk];rfl) (kk8 hk)) ?_
 refine c_kBytes8 (m:=uns8 m) hs hk ?_
 by_cases h1:zaT (uns8 m)=0
 ·have h1':(zaT (uns8 m) != 0)=false:=by simp [h1]
  have h2:zaD (uns8 m)=0:=by
   unfold zaT at h1
   split at h1
   ·rename_i hh;exact absurd h1 hh
   ·rename_i hh;simpa using hh
  obtain ⟨he1,he2⟩:=check8 (m:=uns8 m) hk h2
  refine zA h1' ?_
  refine c_kBody8 (m:=uns8 m) hk he1 ?_
  refine zQ ?_
  refine zt hl ?_
  rw [if_pos h1,h1] at hK
  exact hK
 ·have h1':(zaT (uns8 m) != 0)=true:=by simp [h1]
  refine zA h1' ?_
  refine zt hl ?_
  rw [if_neg h1] at hK
  exact hK
theorem c_raContent7 {σ:List zd} {m:zcS} {c:zJ} (hm:zbn m) (hk:m.kind=7) (hc:m.changes = [c]) {K:KT}
  (hK:K (.tup [.d (.slice (bcs (zee m))),.d (.int .i64 (zaT (zbJ m)))]) σ):zj Tryz.prog zhc [zeR m] σ K:=by
 refine zdZ zsi fun hl => ?_
 simp only [znl,iN,bT,bF,eN]
 refine zQ ?_
 refine c_kUnsigned7 (m:=m) hm hk hc ?_
 by_cases h1:zaT (zbJ m)=0
 ·have h1':(zaT (zbJ m) != 0)=false:=by simp [h1]
  have h2:zee m=6::zjb (zbJ m):=by simp [zee,h1]
  have hlen:=zvD h1
  rw [if_pos h1]
  refine zA (zi h1' (kk7 hk)) ?_
  refine ⟨bcs1 _,by simp,by omega,?_⟩
  refine zt hl ?_
  rw [h2,h1] at hK
  exact hK
 ·have h1':(zaT (zbJ m) != 0)=true:=by simp [h1]
  have h2:zee m = []:=by simp [zee,h1]
  rw [if_neg h1]
  refine zA h1' ?_
  refine zt hl ?_
  rw [h2] at hK
  exact hK
theorem zuz {σ:List zd} {m:zcS} (hm:zbn m) (hk:m.kind=8) {K:KT}
  (hK:K (.tup [.d (.slice (bcs (zee m))),.d (.int .i64 (zaT (zbJ m)))]) σ):zj Tryz.prog zhc [zeR m] σ K:=by
 refine zdZ zsi fun hl => ?_
 simp only [znl,iN,bT,bF,eN]
 refine zQ ?_
 refine c_kUnsigned8 (m:=m) hm hk ?_
 by_cases h1:zaT (zbJ m)=0
 ·have h1':(zaT (zbJ m) != 0)=false:=by simp [h1]
  have h2:zee m=6::zjb (zbJ m):=by simp [zee,h1]
  have hlen:=zvD h1
  rw [if_pos h1]
  refine zA (zi h1' (kk8 hk)) ?_
  refine ⟨bcs1 _,by simp,by omega,?_⟩
  refine zt hl ?_
  rw [h2,h1] at hK
  exact hK
 ·have h1':(zaT (zbJ m) != 0)=true:=by simp [h1]
  have h2:zee m = []:=by simp [zee,h1]
  rw [if_neg h1]
  refine zA h1' ?_
  refine zt hl ?_
  rw [h2] at hK
  exact hK
theorem c_raOf7 {σ:List zd} {m:zcS} {c:zJ} (hk:m.kind=7) (hc:m.changes = [c]) {K:KT} (hK:K (.agg [.d (.int .i64 (zuR m).key),.d (.int .i64 (zuR m).dig)]) σ):zj Tryz.prog zvr [zeR m] σ K:=by
 refine zdZ e_r11_of fun hl => ?_
 have hgx:(zR m.changes)[0]? = some (zat c):=by rw [hc];rfl
 have hgl:(zR m.changes).length=1:=by rw [hc];rfl
 simp only [zAV,iN,bT,bF,eN]
 refine zfG (zi (kk7 hk) (zi hgx (zi hgl (show decide (((1:Nat):Int) > 0)=true from rfl)))) ?_
 refine zt hl ?_
 simp only [zuR,hk,if_true,hc] at hK
 exact hK
theorem c_raOf8 {σ:List zd} {m:zcS} (hk:m.kind=8) {K:KT} (hK:K (.agg [.d (.int .i64 (zuR m).key),.d (.int .i64 (zuR m).dig)]) σ):zj Tryz.prog zvr [zeR m] σ K:=by
 refine zdZ e_r11_of fun hl => ?_
 simp only [zAV,iN,bT,bF,eN]
 refine zA (kk8 hk) ?_
 refine zt hl ?_
 rw [show zuR m=⟨m.key,m.sdig⟩ by simp [zuR,hk]] at hK
 exact hK
theorem c_raChange {σ:List zd} {c:zJ} {K:KT} (hK:K (zeR (vcM c)) σ):zj Tryz.prog zox [.agg (zbj c)] σ K:=by
 refine zdZ e_r11_Change fun hl => ?_
 simp only [zuF,iN,bT,bF,eN,zl0,zl4]
 refine zQ ?_
 refine zt hl ?_
 exact hK
theorem c_raValid7 {σ:List zd} {id id2:Nat} {L:List (List UInt8)} {G:List zy} {M:zcS} {c:zJ} (hT : σ[id]? = some (rtO L)) (hG : σ[id2]? = some (rlO G)) (hL:L.length<=1048576) (hg:G.length<=1073741824) (hm:zbn M) (hk:M.kind=7) (hc:M.changes = [c]) {K:KT}
  (hK:K (.d (.bool (zcr L G M))) σ):zj Tryz.prog zkh [.box id 0,.box id2 0,zeR M] σ K:=by
 refine zyo zwF fun hl => ?_
 have fin:∀ z,zcr L G M=z->K (.d (.bool z)) σ:=fun z h=>h▸hK
 clear hK
 have hT1:=fun τ=>zn (τ := τ) hT
 have hG1:=fun τ=>zn (τ := τ) hG
 simp only [zrx,iN,bT,bF,eN]
 refine zQ ?_
 refine c_raContent7 (m:=M) hm hk hc ?_
 cases h2:(zaT (zbJ M) != 0)
 rotate_left
 ·refine zA h2 ?_
  refine zt hl ?_
  exact fin _ (by simp at h2;simp [zcr,h2])
 have h2':zaT (zbJ M)=0:=by simpa using h2
 have hcb:zee M=6::zjb (zbJ M):=by simp [zee,h2']
 rw [hcb]
 refine zA h2 ?_
 refine c_kCheck7 (m:=M) hm hk ?_
 cases h1:(zaD M != 0)
 rotate_left
 ·refine zA h1 ?_
  refine zt hl ?_
  exact fin _ (by simp at h1;simp [zcr,h1])
 have h1':zaD M=0:=by simpa using h1
 refine zA h1 ?_
 refine c_raOf7 (m:=M) hk hc ?_
 refine zQ ?_
 refine ztS (s:=zuR M) (key:=M.src) (b := 6::zjb (zbJ M)) (hT1 _) (hG1 _) hL hg ?_
 refine zQ ?_
 refine zt hl ?_
 refine fin _ ?_
 simp [zcr,h1',h2',hcb]
theorem c_raValid8 {σ:List zd} {id id2:Nat} {L:List (List UInt8)} {G:List zy} {M:zcS} (hT : σ[id]? = some (rtO L)) (hG : σ[id2]? = some (rlO G)) (hL:L.length<=1048576) (hg:G.length<=1073741824) (hm:zbn M) (hk:M.kind=8) {K:KT}
  (hK:K (.d (.bool (zcr L G M))) σ):zj Tryz.prog zkh [.box id 0,.box id2 0,zeR M] σ K:=by
 refine zyo zwF fun hl => ?_
 have fin:∀ z,zcr L G M=z->K (.d (.bool z)) σ:=fun z h=>h▸hK
 clear hK
 have hT1:=fun τ=>zn (τ := τ) hT
 have hG1:=fun τ=>zn (τ := τ) hG
 simp only [zrx,iN,bT,bF,eN]
 refine zQ ?_
 refine zuz (m:=M) hm hk ?_
 cases h2:(zaT (zbJ M) != 0)
 rotate_left
 ·refine zA h2 ?_
  refine zt hl ?_
  exact fin _ (by simp at h2;simp [zcr,h2])
 have h2':zaT (zbJ M)=0:=by simpa using h2
 have hcb:zee M=6::zjb (zbJ M):=by simp [zee,h2']
 rw [hcb]
 refine zA h2 ?_
 refine c_kCheck8 (m:=M) hm hk ?_
 cases h1:(zaD M != 0)
 rotate_left
 ·refine zA h1 ?_
  refine zt hl ?_
  exact fin _ (by simp at h1;simp [zcr,h1])
 have h1':zaD M=0:=by simpa using h1
 refine zA h1 ?_
 refine c_raOf8 (m:=M) hk ?_
 refine zQ ?_
 refine ztS (s:=zuR M) (key:=M.src) (b := 6::zjb (zbJ M)) (hT1 _) (hG1 _) hL hg ?_
 refine zQ ?_
 refine zt hl ?_
 refine fin _ ?_
 simp [zcr,h1',h2',hcb]
end Go.Proofs.YtpgahkdjkanblaaGreat
