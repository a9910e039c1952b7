/- Contracts: which view-changes and new views are signed, the program's. -/
import Derived.Test.YtpgahkdjkanblaaGreatId5
import Derived.Test.YtpgahkdjkanblaaGreatSpTab
import Derived.Test.YtpgahkdjkanblaaGreatSpOp
import Derived.Test.YtpgahkdjkanblaaGreatQu1
import Derived.Test.YtpgahkdjkanblaaGreatPr4
import Derived.Test.YtpgahkdjkanblaaGreatRc1
set_option linter.all false
set_option maxRecDepth 100000
namespace Go.Proofs.YtpgahkdjkanblaaGreat
open Go.AW
theorem c_auValid7 {σ:List zd} {id m t id2 m2 t2:Nat} {L:List (List UInt8)} {G:List zy} {M:zcS} {c:zJ} (hT:zea σ id m t L) (hG:zdL σ id2 m2 t2 G) (hL:zka L) (hg:G.length<=1073741824) (hm:zbn M) (hk:M.kind=7) (hc:M.changes = [c]) {K:KT}
  (hK:K (.d (.bool (zcr L G M))) σ):zj Tryz.prog ziL [.box id 0,.box id2 0,zeR M] σ K:=by
 refine zyo zux fun hl => ?_
 have fin:∀ z,zcr L G M=z->K (.d (.bool z)) σ:=fun z h=>h▸hK
 clear hK
 have hT1:=fun τ=>hT.app τ
 have hG1:=fun τ=>hG.app τ
 simp only [zps,iN,bT,bF,eN]
 refine zQ ?_
 refine zpR (hT1 _) (hG1 _) hL hg ?_
 refine zQ ?_
 refine c_mCheck7 (m:=M) hm hk ?_
 cases h1:(zaD M != 0)
 rotate_left
 ·refine zA h1 ?_
  refine zt hl ?_
  exact fin _ (by simp at h1;simp [zcr,h1])
 have h1':zaD M=0:=by simpa using h1
 refine zA h1 ?_
 refine c_auContent7 (m:=M) hm hk hc ?_
 cases h2:(zaT (zbJ M)==0)
 ·refine zA h2 ?_
  refine zt hl ?_
  exact fin _ (by simp at h2;simp [zcr,h2])
 have h2':zaT (zbJ M)=0:=by simpa using h2
 have hcb:zee M=6::zjb (zbJ M):=by simp [zee,h2']
 rw [hcb]
 refine zA h2 ?_
 refine c_auOwn7 (m:=M) hk hc ?_
 refine zQ ?_
 refine ztU (s:=zuR M) (key:=M.src) (b := 6::zjb (zbJ M)) (hT1 _) (hG1 _) ?_
 refine zQ ?_
 refine zt hl ?_
 refine fin _ ?_
 simp [zcr,h1',h2',hcb]
theorem c_auValid8 {σ:List zd} {id m t id2 m2 t2:Nat} {L:List (List UInt8)} {G:List zy} {M:zcS} (hT:zea σ id m t L) (hG:zdL σ id2 m2 t2 G) (hL:zka L) (hg:G.length<=1073741824) (hm:zbn M) (hk:M.kind=8) {K:KT}
  (hK:K (.d (.bool (zcr L G M))) σ):zj Tryz.prog ziL [.box id 0,.box id2 0,zeR M] σ K:=by
 refine zyo zux fun hl => ?_
 have fin:∀ z,zcr L G M=z->K (.d (.bool z)) σ:=fun z h=>h▸hK
 clear hK
 have hT1:=fun τ=>hT.app τ
 have hG1:=fun τ=>hG.app τ
 simp only [zps,iN,bT,bF,eN]
 refine zQ ?_
 refine zpR (hT1 _) (hG1 _) hL hg ?_
 refine zQ ?_
 refine c_mCheck8 (m:=M) hm hk ?_
 cases h1:(zaD M != 0)
 rotate_left
 ·refine zA h1 ?_
  refine zt hl ?_
  exact fin _ (by simp at h1;simp [zcr,h1])
 have h1':zaD M=0:=by simpa using h1
 refine zA h1 ?_
 refine zuA (m:=M) hm hk ?_
 cases h2:(zaT (zbJ M)==0)
 ·refine zA h2 ?_
  refine zt hl ?_
  exact fin _ (by simp at h2;simp [zcr,h2])
 have h2':zaT (zbJ M)=0:=by simpa using h2
 have hcb:zee M=6::zjb (zbJ M):=by simp [zee,h2']
 rw [hcb]
 refine zA h2 ?_
 refine c_auOwn8 (m:=M) hk ?_
 refine zQ ?_
 refine ztU (s:=zuR M) (key:=M.src) (b := 6::zjb (zbJ M)) (hT1 _) (hG1 _) ?_
 refine zQ ?_
 refine zt hl ?_
 refine fin _ ?_
 simp [zcr,h1',h2',hcb]
end Go.Proofs.YtpgahkdjkanblaaGreat

/- Checkpoints' certificates: which are valid. No program in sight. -/
namespace Go.AW
def zkY (f seq d key:Int):Bool:=decide (seq≥1)&&(decide (seq<=9007199254740992)&&((seq.tmod 4==0)&&(decide (d≥1)&&(decide (d<=9007199254740992)&&(decide (key≥0)&&decide (key<zaR 3 f))))))
def zsV (c:zeP):Bool:=(c.seq==0)&&((c.dig==0)&&((c.signs.length:Int)==0))
def zAi (f seq d:Int):Option zy->List zy->Bool
 | _,[]=>true
 | p,s::r=>zkY f seq d s.key&&((match p with|some q => !(decide (s.key<=q.key))|none=>true)&&zAi f seq d (some s) r)
def zfb (f:Int) (c:zeP):Bool:=zsV c || (decide ((c.signs.length:Int)≥zaR 2 f)&&zAi f c.seq c.dig none c.signs)
def zoh (L:List (List UInt8)) (G:List zy) (f:Int) (c:zeP):Bool:=decide (zbs f=0)&&(zfb f c&&c.signs.all fun s=>zfy L G s s.key 6 0 c.seq c.dig)
theorem zyN {f seq d:Int} {p:Option zy} {l:List zy} {k:Nat} {s:zy} (h:l[k]? = some s):zAi f seq d p (l.drop k)=(zkY f seq d s.key&&((match p with|some q => !(decide (s.key<=q.key))|none=>true)&&zAi f seq d (some s) (l.drop (k+1)))):=by
 have hk:k<l.length:=(List.getElem?_eq_some_iff.1 h).1
 rw [List.drop_eq_getElem_cons hk,(List.getElem?_eq_some_iff.1 h).2]
 rfl
def aheadS (l:List zy):Nat->Option zy
 | 0=>none
 | k+1=>l[k]?
end Go.AW

/- Contracts: checkpoints' certificates, on both sides. -/
set_option maxRecDepth 100000
namespace Go.Proofs.YtpgahkdjkanblaaGreat
open Go.AW
theorem c_ptZero {σ:List zd} {c:zeP} {K:KT} (hK:K (.d (.bool (zsV c))) σ):zj Tryz.prog zoC [zdu c] σ K:=by
 refine zdZ e_point_zero fun hl => ?_
 have hlen:(zO c.signs).length=c.signs.length:=List.length_map ..
 have fin:∀ z,zsV c=z->K (.d (.bool z)) σ:=fun z h=>h▸hK
 clear hK
 simp only [zuM,iN,bT,bF,eN,zdu]
 cases h1:(c.seq==0)
 ·refine zA h1 ?_
  refine zt hl ?_
  exact fin _ (by simp [zsV,h1])
 cases h2:(c.dig==0)
 ·refine zA (zi h1 h2) ?_
  refine zt hl ?_
  exact fin _ (by simp [zsV,h1,h2])
 refine zA (zi h1 (zi h2 hlen)) ?_
 refine zt hl ?_
 exact fin _ (by simp [zsV,h1,h2])
theorem c_r14Zero {σ:List zd} {c:zeP} {K:KT} (hK:K (.d (.bool (zsV c))) σ):zj Tryz.prog ztk [zdu c] σ K:=by
 refine zdZ e_r14_zero fun hl => ?_
 have hlen:(zO c.signs).length=c.signs.length:=List.length_map ..
 have fin:∀ z,zsV c=z->K (.d (.bool z)) σ:=fun z h=>h▸hK
 clear hK
 simp only [zzz,iN,bT,bF,eN,zdu]
 cases h1:(c.seq==0)
 ·refine zA h1 ?_
  refine zt hl ?_
  exact fin _ (by simp [zsV,h1])
 cases h2:(c.dig==0)
 ·refine zA (zi h1 h2) ?_
  refine zt hl ?_
  exact fin _ (by simp [zsV,h1,h2])
 refine zA (zi h1 (zi h2 hlen)) ?_
 refine zt hl ?_
 exact fin _ (by simp [zsV,h1,h2])
theorem c_ptMay {σ:List zd} {id:Nat} {f seq d key:Int} {cs:List AV} (hσ : σ[id]? = some (.box (.d (.int .i64 f)::cs))) {K:KT} (hK:K (.d (.bool (zkY f seq d key))) σ) :
  zj Tryz.prog zhk [.box id 0,.d (.int .i64 seq),.d (.int .i64 d),.d (.int .i64 key)] σ K:=by
 refine zAU zsl fun hl => ?_
 have fin:∀ z,zkY f seq d key=z->K (.d (.bool z)) σ:=fun z h=>h▸hK
 clear hK
 have e4:((4:Int)==0)=false:=rfl
 simp only [zlt,iN,bT,bF,eN]
 cases h1:decide (seq≥1)
 ·refine zA h1 ?_
  refine zt hl ?_
  exact fin _ (by rw [zkY,h1];rfl)
 cases h2:decide (seq<=9007199254740992)
 ·refine zA (zi h1 h2) ?_
  refine zt hl ?_
  exact fin _ (by rw [zkY,h1,h2];rfl)
 cases h3:(seq.tmod 4==0)
 ·refine zA (zi h1 (zi h2 (zi e4 h3))) ?_
  refine zt hl ?_
  exact fin _ (by rw [zkY,h1,h2,h3];rfl)
 cases h4:decide (d≥1)
 ·refine zA (zi h1 (zi h2 (zi e4 (zi h3 h4)))) ?_
  refine zt hl ?_
  exact fin _ (by rw [zkY,h1,h2,h3,h4];rfl)
 cases h5:decide (d<=9007199254740992)
 ·refine zA (zi h1 (zi h2 (zi e4 (zi h3 (zi h4 h5))))) ?_
  refine zt hl ?_
  exact fin _ (by rw [zkY,h1,h2,h3,h4,h5];rfl)
 cases h6:decide (key≥0)
 ·refine zA (zi h1 (zi h2 (zi e4 (zi h3 (zi h4 (zi h5 h6)))))) ?_
  refine zt hl ?_
  exact fin _ (by rw [zkY,h1,h2,h3,h4,h5,h6];rfl)
 refine zA (zi h1 (zi h2 (zi e4 (zi h3 (zi h4 (zi h5 (zi h6 hσ))))))) ?_
 refine zkF ?_
 refine zQ ?_
 refine zt hl ?_
 exact fin _ (by rw [zkY,h1,h2,h3,h4,h5,h6];rfl)
theorem c_r14May {σ:List zd} {id:Nat} {f seq d key:Int} {cs:List AV} (hσ : σ[id]? = some (.box (.d (.int .i64 f)::cs))) {K:KT} (hK:K (.d (.bool (zkY f seq d key))) σ) :
  zj Tryz.prog zjf [.box id 0,.d (.int .i64 seq),.d (.int .i64 d),.d (.int .i64 key)] σ K:=by
 refine zAU zuZ fun hl => ?_
 have fin:∀ z,zkY f seq d key=z->K (.d (.bool z)) σ:=fun z h=>h▸hK
 clear hK
 have e4:((4:Int)==0)=false:=rfl
 simp only [znA,iN,bT,bF,eN]
 cases h1:decide (seq≥1)
 ·refine zA h1 ?_
  refine zt hl ?_
  exact fin _ (by rw [zkY,h1];rfl)
 cases h2:decide (seq<=9007199254740992)
 ·refine zA (zi h1 h2) ?_
  refine zt hl ?_
  exact fin _ (by rw [zkY,h1,h2];rfl)
 cases h3:(seq.tmod 4==0)
 ·refine zA (zi h1 (zi h2 (zi e4 h3))) ?_
  refine zt hl ?_
  exact fin _ (by rw [zkY,h1,h2,h3];rfl)
 cases h4:decide (d≥1)
 ·refine zA (zi h1 (zi h2 (zi e4 (zi h3 h4)))) ?_
  refine zt hl ?_
  exact fin _ (by rw [zkY,h1,h2,h3,h4];rfl)
 cases h5:decide (d<=9007199254740992)
 ·refine zA (zi h1 (zi h2 (zi e4 (zi h3 (zi h4 h5))))) ?_
  refine zt hl ?_
  exact fin _ (by rw [zkY,h1,h2,h3,h4,h5];rfl)
 cases h6:decide (key≥0)
 ·refine zA (zi h1 (zi h2 (zi e4 (zi h3 (zi h4 (zi h5 h6)))))) ?_
  refine zt hl ?_
  exact fin _ (by rw [zkY,h1,h2,h3,h4,h5,h6];rfl)
 refine zA (zi h1 (zi h2 (zi e4 (zi h3 (zi h4 (zi h5 (zi h6 hσ))))))) ?_
 refine zmk ?_
 refine zQ ?_
 refine zt hl ?_
 exact fin _ (by rw [zkY,h1,h2,h3,h4,h5,h6];rfl)
theorem zis {l:List zy} {k:Nat} {s:zy} (h:l[k]? = some s):aheadS l (k+1)=some s:=h
abbrev certO (c:zeP):zd := .box [.d (.int .i64 c.seq),.d (.int .i64 c.dig),.d (.slice (zO c.signs))]
theorem c_ptMayCert {σ:List zd} {id:Nat} {f:Int} {c:zeP} {cs:List AV} (hσ : σ[id]? = some (.box (.d (.int .i64 f)::cs))) (hl0:c.signs.length<=1073741824) {K:KT} (hK:K (.d (.bool (zfb f c))) σ) :
  zj Tryz.prog zfw [.box id 0,zdu c] σ K:=by
 refine zeE zob fun hl => ?_
 have fin:∀ z,zfb f c=z->K (.d (.bool z)) σ:=fun z h=>h▸hK
 clear hK
 have hlen:(zO c.signs).length=c.signs.length:=List.length_map ..
 have hS:∀ τ,(σ ++ τ)[id]? = some (.box (.d (.int .i64 f)::cs)):=fun τ=>zn hσ
 simp only [zhX,iN,bT,bF,eN,zdu]
 refine zQ ?_
 refine c_ptZero (c:=c) ?_
 cases hz:zsV c
 rotate_left
 ·refine zQ ?_
  refine zt hl ?_
  exact fin _ (by rw [zfb,hz];rfl)
 refine zA hlen ?_
 refine zl c.signs.length (fun k vs s=>vs = [.d (.int .i64 k)]/\(∃ T,s = σ++certO c::T)/\zAi f c.seq c.dig none c.signs=zAi f c.seq c.dig (aheadS c.signs k) (c.signs.drop k)) ⟨rfl,⟨[],rfl⟩,rfl⟩ ?_
 rintro k vs s hk ⟨rfl,⟨T,rfl⟩,hpf⟩
 have no:zAi f c.seq c.dig none c.signs=false->zfb f c=false:=fun h=>by rw [zfb,hz,h,Bool.and_false];rfl
 by_cases hlt:k<c.signs.length
 ·have hd:decide ((k:Int)<(c.signs.length:Int))=true:=by simp;omega
  have hx:c.signs[k]? = some c.signs[k]:=by simp [hlt]
  have hgx:=zF (f:=zfi) hx
  obtain ⟨x,hxe⟩:∃ x,c.signs[k]=x:=⟨_,rfl⟩
  rw [hxe] at hx hgx
  rw [zyN hx] at hpf
  refine zfG (zi hd hgx) ?_
  refine c_ptMay (hS _) ?_
  cases h1:zkY f c.seq c.dig x.key
  ·refine zQ ?_
   refine zt hl ?_
   exact fin _ (no (by rw [hpf,h1];rfl))
  rw [h1,Bool.true_and] at hpf
  cases k with
  | zero=>
   refine zA (zi (show decide (((0:Nat):Int) > 0)=false from rfl) (wkc 0 (by omega))) ?_
   exact zan.next hlt ⟨rfl,⟨_,rfl⟩,by rw [hpf,zis hx];rfl⟩
  | succ j=>
   have hz1:decide (((j+1:Nat):Int) > 0)=true:=decide_eq_true (by omega)
   have hw1:IntKind.i64.wrap (((j+1:Nat):Int)-1)=(j:Int):=by rw [zab (by omega) (by omega)];omega
   have hy:c.signs[j]? = some c.signs[j]:=by simp [show j<c.signs.length by omega]
   have hgy:=zF (f:=zfi) hy
   obtain ⟨y,hye⟩:∃ y,c.signs[j]=y:=⟨_,rfl⟩
   rw [hye] at hy hgy
   rw [zis hy] at hpf
   simp only at hpf
   cases h2:decide (x.key<=y.key)
   ·refine zfG (zi hz1 (zi hw1 (zi hgx (zi hgy (zi h2 (wkc (j+1) (by omega))))))) ?_
    exact zan.next hlt ⟨rfl,⟨_,rfl⟩,by rw [hpf,h2,zis hx];simp⟩
   ·refine zfG (zi hz1 (zi hw1 (zi hgx (zi hgy h2)))) ?_
    refine zt hl ?_
    exact fin _ (no (by rw [hpf,h2];rfl))
 ·have hd:decide ((k:Int)<(c.signs.length:Int))=false:=by simp;omega
  rw [List.drop_eq_nil_of_le (by omega)] at hpf
  refine zA (zi hd (zi hlen hS)) ?_
  refine c_quBig ?_
  refine zQ ?_
  refine zt hl ?_
  exact fin _ (by rw [zfb,hz,hpf];simp [zAi])
theorem c_r14MayCert {σ:List zd} {id:Nat} {f:Int} {c:zeP} {cs:List AV} (hσ : σ[id]? = some (.box (.d (.int .i64 f)::cs))) (hl0:c.signs.length<=1073741824) {K:KT} (hK:K (.d (.bool (zfb f c))) σ) :
  zj Tryz.prog zgp [.box id 0,zdu c] σ K:=by
 refine zeE zqa fun hl => ?_
 have fin:∀ z,zfb f c=z->K (.d (.bool z)) σ:=fun z h=>h▸hK
 clear hK
 have hlen:(zO c.signs).length=c.signs.length:=List.length_map ..
 have hS:∀ τ,(σ ++ τ)[id]? = some (.box (.d (.int .i64 f)::cs)):=fun τ=>zn hσ
 simp only [zjz,iN,bT,bF,eN,zdu]
 refine zQ ?_
 refine c_r14Zero (c:=c) ?_
 cases hz:zsV c
 rotate_left
 ·refine zQ ?_
  refine zt hl ?_
  exact fin _ (by rw [zfb,hz];rfl)
 refine zA (zi hlen hS) ?_
 refine c_rBig ?_
 cases hb:decide ((c.signs.length:Int)<zaR 2 f)
 rotate_left
 ·refine zA hb ?_
  refine zt hl ?_
  refine fin _ ?_
  have:decide ((c.signs.length:Int)≥zaR 2 f)=false:=by simp at hb ⊢;omega
  rw [zfb,hz,this];rfl
 have hb2:decide ((c.signs.length:Int)≥zaR 2 f)=true:=by simp at hb ⊢;omega
 refine zA hb ?_
 refine zl c.signs.length (fun k vs s=>vs = [.d (.int .i64 k)]/\s = σ++[certO c]/\zfb f c=zAi f c.seq c.dig (aheadS c.signs k) (c.signs.drop k)) ⟨rfl,rfl,by rw [zfb,hz,hb2];rfl⟩ ?_
 rintro k vs s hk ⟨rfl,rfl,hpf⟩
 by_cases hlt:k<c.signs.length
 ·have hd:decide ((k:Int)<(c.signs.length:Int))=true:=by simp;omega
  have hx:c.signs[k]? = some c.signs[k]:=by simp [hlt]
  have hgx:=zF (f:=zfi) hx
  obtain ⟨x,hxe⟩:∃ x,c.signs[k]=x:=⟨_,rfl⟩
  rw [hxe] at hx hgx
  rw [zyN hx] at hpf
  refine zfG (zi hd (zi hgx hlen)) ?_
  refine c_r14May (hS _) ?_
  cases h1:zkY f c.seq c.dig x.key
  ·refine zQ ?_
   refine zt hl ?_
   exact fin _ (by rw [hpf,h1];rfl)
  rw [h1,Bool.true_and] at hpf
  cases k with
  | zero=>
   refine zA (zi (show decide (((0:Nat):Int) > 0)=false from rfl) (wkc 0 (by omega))) ?_
   exact zan.next hlt ⟨rfl,rfl,by rw [hpf,zis hx];rfl⟩
  | succ j=>
   have hz1:decide (((j+1:Nat):Int) > 0)=true:=decide_eq_true (by omega)
   have hw1:IntKind.i64.wrap (((j+1:Nat):Int)-1)=(j:Int):=by rw [zab (by omega) (by omega)];omega
   have hy:c.signs[j]? = some c.signs[j]:=by simp [show j<c.signs.length by omega]
   have hgy:=zF (f:=zfi) hy
   obtain ⟨y,hye⟩:∃ y,c.signs[j]=y:=⟨_,rfl⟩
   rw [hye] at hy hgy
   rw [zis hy] at hpf
   simp only at hpf
   cases h2:decide (x.key<=y.key)
   ·refine zfG (zi hz1 (zi hw1 (zi hgx (zi hgy (zi h2 (wkc (j+1) (by omega))))))) ?_
    exact zan.next hlt ⟨rfl,rfl,by rw [hpf,h2,zis hx];simp⟩
   ·refine zfG (zi hz1 (zi hw1 (zi hgx (zi hgy h2)))) ?_
    refine zt hl ?_
    exact fin _ (by rw [hpf,h2];rfl)
 ·have hd:decide ((k:Int)<(c.signs.length:Int))=false:=by simp;omega
  rw [List.drop_eq_nil_of_le (by omega)] at hpf
  refine zA (zi hd hlen) ?_
  refine zt hl ?_
  exact fin _ (by rw [hpf];rfl)
theorem c_ptNew {σ:List zd} {f:Int} {K:KT} (hN:zbs f≠0->K (.tup [.d .nilp,.d (.int .i64 (zbs f))]) σ)
  (hY:zbs f=0->K (.tup [.box (σ.length+1) 0,.d (.int .i64 0)]) (σ++[.map [],.box [.d (.int .i64 f),.d (.int .i64 0),.d (.int .i64 0),.exact [],.map σ.length,.exact []]])):zj Tryz.prog zqU [.d (.int .i64 f)] σ K:=by
 refine zbT zwR.is rfl (fun s=>if s.length = σ.length then [] else List.range' σ.length 2) fun hl _=>zwR.goes ?_
 simp only [zxF,iN,bT,bF,eN]
 refine zQ ?_
 refine zkE ?_
 cases h:(zbs f != 0)
 ·have h0:zbs f=0:=by simpa using h
  refine zA h ?_
  refine zeq (os := [.map [],.box [.d (.int .i64 f),.d (.int .i64 0),.d (.int .i64 0),.exact [],.map σ.length,.exact []]]) rfl (by simp) hl ?_ ?_ (hY h0)
  ·intro x hx
   simp only [List.mem_cons,List.not_mem_nil,or_false] at hx
   rcases hx with rfl|rfl
   ·intro e he;simp at he
   ·intro c hc
    simp only [List.mem_cons,List.not_mem_nil,or_false] at hc
    rcases hc with rfl|rfl|rfl|rfl|rfl|rfl
    ·exact .d _
    ·exact .d _
    ·exact .d _
    ·exact .exact _
    ·exact .map _ (by simp)
    ·exact .exact _
  ·simp [zcq,zaU,Low_box,zfF]
 ·refine zA h ?_
  exact zkz (by simp) hl (by simp [zcq,zdY,zjr]) (hN (by simpa using h))
end Go.Proofs.YtpgahkdjkanblaaGreat
