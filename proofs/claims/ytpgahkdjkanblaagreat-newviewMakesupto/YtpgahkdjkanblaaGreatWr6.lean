/- Contracts: which view-changes and new views are signed, the program's. -/
import Derived.Test.YtpgahkdjkanblaaGreatWr5
import Derived.Test.YtpgahkdjkanblaaGreatSpTab
import Derived.Test.YtpgahkdjkanblaaGreatSpOp
import Derived.Test.YtpgahkdjkanblaaGreatId5
import Derived.Test.YtpgahkdjkanblaaGreatQu1
import Derived.Test.YtpgahkdjkanblaaGreatPr4
import Derived.Test.YtpgahkdjkanblaaGreatRc1
set_option linter.all false
set_option maxRecDepth 100000
namespace Go.Proofs.YtpgahkdjkanblaaGreat
open Go.AW
theorem c_auValid7 {σ:List zh} {id m t id2 m2 t2:Nat} {L:List (List UInt8)} {G:List zK} {M:zee} {c:zU} (hT:zeS σ id m t L) (hG:zev σ id2 m2 t2 G) (hL:znT L) (hg:G.length<=1073741824) (hm:zbP M) (hk:M.kind=7) (hc:M.changes = [c]) {K:KT}
  (hK:K (.d (.bool (zid L G M))) σ):zo Tryz.prog zpb [.box id 0,.box id2 0,zge M] σ K:=by
 refine zd zuE.is rfl fun hl _=>zuE.goes ?_
 have fin:∀ z,zid L G M=z->K (.d (.bool z)) σ:=fun z h=>h ▸ hK
 clear hK
 have hT1:=fun τ=>hT.app τ
 have hG1:=fun τ=>hG.app τ
 simp only [zuU,iN,bT,bF,eN]
 refine zab ?_
 refine zsI (hT1 _) (hG1 _) hL hg ?_
 refine zab ?_
 refine c_mCheck7 (m:=M) hm hk ?_
 cases h1:(zaN M != 0)
 rotate_left
 ·refine zB h1 ?_
  refine zw hl ?_
  exact fin _ (by simp at h1;simp [zid,h1])
 have h1':zaN M=0:=by simpa using h1
 refine zB h1 ?_
 refine c_auContent7 (m:=M) hm hk hc ?_
 cases h2:(zba (zcu M) == 0)
 ·refine zB h2 ?_
  refine zw hl ?_
  exact fin _ (by simp at h2;simp [zid,h2])
 have h2':zba (zcu M)=0:=by simpa using h2
 have hcb:zfc M=6 :: zkb (zcu M):=by simp [zfc,h2']
 rw [hcb]
 refine zB h2 ?_
 refine c_auOwn7 (m:=M) hk hc ?_
 refine zab ?_
 refine zyV (s:=ownS M) (key:=M.src) (b := 6 :: zkb (zcu M)) (hT1 _) (hG1 _) ?_
 refine zab ?_
 refine zw hl ?_
 refine fin _ ?_
 simp [zid,h1',h2',hcb]
end Go.Proofs.YtpgahkdjkanblaaGreat

/- Checkpoints' certificates: which are valid. No program in sight. -/
namespace Go.AW
def zlb (f seq d key:Int):Bool:=decide (seq ≥ 1) && (decide (seq<=9007199254740992) && ((seq.tmod 4 == 0) && (decide (d ≥ 1) && (decide (d<=9007199254740992) && (decide (key ≥ 0) && decide (key<zaW 3 f))))))
def zte (c:zft):Bool:=(c.seq == 0) && ((c.dig == 0) && ((c.signs.length:Int) == 0))
def zzR (f seq d:Int):Option zK->List zK->Bool
 | _,[]=>true
 | p,s :: r=>zlb f seq d s.key && ((match p with | some q => !(decide (s.key<=q.key)) | none=>true) && zzR f seq d (some s) r)
def zfn (f:Int) (c:zft):Bool:=zte c || (decide ((c.signs.length:Int) ≥ zaW 2 f) && zzR f c.seq c.dig none c.signs)
def zrC (L:List (List UInt8)) (G:List zK) (f:Int) (c:zft):Bool:=decide (zbN f=0) && (zfn f c && c.signs.all fun s=>zgP L G s s.key 6 0 c.seq c.dig)
theorem zyd {f seq d:Int} {p:Option zK} {l:List zK} {k:Nat} {s:zK} (h:l[k]? = some s):zzR f seq d p (l.drop k)=(zlb f seq d s.key && ((match p with | some q => !(decide (s.key<=q.key)) | none=>true) && zzR f seq d (some s) (l.drop (k+1)))):=by
 have hk:k<l.length:=(List.getElem?_eq_some_iff.1 h).1
 rw [List.drop_eq_getElem_cons hk,(List.getElem?_eq_some_iff.1 h).2]
 rfl
def aheadS (l:List zK):Nat->Option zK
 | 0=>none
 | k+1=>l[k]?
end Go.AW

/- Contracts: checkpoints' certificates, on both sides. -/
set_option maxRecDepth 100000
namespace Go.Proofs.YtpgahkdjkanblaaGreat
open Go.AW
theorem c_ptZero {σ:List zh} {c:zft} {K:KT} (hK:K (.d (.bool (zte c))) σ):zo Tryz.prog zoY [zgc c] σ K:=by
 refine zd zuB.is rfl fun hl _=>zuB.goes ?_
 have hlen:(zap c.signs).length=c.signs.length:=List.length_map ..
 have fin:∀ z,zte c=z->K (.d (.bool z)) σ:=fun z h=>h ▸ hK
 clear hK
 simp only [zuR,iN,bT,bF,eN,zgc]
 cases h1:(c.seq == 0)
 ·refine zB h1 ?_
  refine zw hl ?_
  exact fin _ (by simp [zte,h1])
 cases h2:(c.dig == 0)
 ·refine zB (zn h1 h2) ?_
  refine zw hl ?_
  exact fin _ (by simp [zte,h1,h2])
 refine zB (zn h1 (zn h2 hlen)) ?_
 refine zw hl ?_
 exact fin _ (by simp [zte,h1,h2])
theorem c_r14Zero {σ:List zh} {c:zft} {K:KT} (hK:K (.d (.bool (zte c))) σ):zo Tryz.prog zts [zgc c] σ K:=by
 refine zd zyu.is rfl fun hl _=>zyu.goes ?_
 have hlen:(zap c.signs).length=c.signs.length:=List.length_map ..
 have fin:∀ z,zte c=z->K (.d (.bool z)) σ:=fun z h=>h ▸ hK
 clear hK
 simp only [zzg,iN,bT,bF,eN,zgc]
 cases h1:(c.seq == 0)
 ·refine zB h1 ?_
  refine zw hl ?_
  exact fin _ (by simp [zte,h1])
 cases h2:(c.dig == 0)
 ·refine zB (zn h1 h2) ?_
  refine zw hl ?_
  exact fin _ (by simp [zte,h1,h2])
 refine zB (zn h1 (zn h2 hlen)) ?_
 refine zw hl ?_
 exact fin _ (by simp [zte,h1,h2])
theorem c_ptMay {σ:List zh} {id:Nat} {f seq d key:Int} {cs:List AV} (hσ : σ[id]? = some (.box (.d (.int .i64 f) :: cs))) {K:KT} (hK:K (.d (.bool (zlb f seq d key))) σ) :
  zo Tryz.prog zhm [.box id 0,.d (.int .i64 seq),.d (.int .i64 d),.d (.int .i64 key)] σ K:=by
 refine zd zls.is rfl fun hl _=>zls.goes ?_
 have fin:∀ z,zlb f seq d key=z->K (.d (.bool z)) σ:=fun z h=>h ▸ hK
 clear hK
 have e4:((4:Int) == 0)=false:=rfl
 simp only [zlG,iN,bT,bF,eN]
 cases h1:decide (seq ≥ 1)
 ·refine zB h1 ?_
  refine zw hl ?_
  exact fin _ (by rw [zlb,h1];rfl)
 cases h2:decide (seq<=9007199254740992)
 ·refine zB (zn h1 h2) ?_
  refine zw hl ?_
  exact fin _ (by rw [zlb,h1,h2];rfl)
 cases h3:(seq.tmod 4 == 0)
 ·refine zB (zn h1 (zn h2 (zn e4 h3))) ?_
  refine zw hl ?_
  exact fin _ (by rw [zlb,h1,h2,h3];rfl)
 cases h4:decide (d ≥ 1)
 ·refine zB (zn h1 (zn h2 (zn e4 (zn h3 h4)))) ?_
  refine zw hl ?_
  exact fin _ (by rw [zlb,h1,h2,h3,h4];rfl)
 cases h5:decide (d<=9007199254740992)
 ·refine zB (zn h1 (zn h2 (zn e4 (zn h3 (zn h4 h5))))) ?_
  refine zw hl ?_
  exact fin _ (by rw [zlb,h1,h2,h3,h4,h5];rfl)
 cases h6:decide (key ≥ 0)
 ·refine zB (zn h1 (zn h2 (zn e4 (zn h3 (zn h4 (zn h5 h6)))))) ?_
  refine zw hl ?_
  exact fin _ (by rw [zlb,h1,h2,h3,h4,h5,h6];rfl)
 refine zB (zn h1 (zn h2 (zn e4 (zn h3 (zn h4 (zn h5 (zn h6 hσ))))))) ?_
 refine zkL ?_
 refine zab ?_
 refine zw hl ?_
 exact fin _ (by rw [zlb,h1,h2,h3,h4,h5,h6];rfl)
theorem c_r14May {σ:List zh} {id:Nat} {f seq d key:Int} {cs:List AV} (hσ : σ[id]? = some (.box (.d (.int .i64 f) :: cs))) {K:KT} (hK:K (.d (.bool (zlb f seq d key))) σ) :
  zo Tryz.prog zjj [.box id 0,.d (.int .i64 seq),.d (.int .i64 d),.d (.int .i64 key)] σ K:=by
 refine zd znC.is rfl fun hl _=>znC.goes ?_
 have fin:∀ z,zlb f seq d key=z->K (.d (.bool z)) σ:=fun z h=>h ▸ hK
 clear hK
 have e4:((4:Int) == 0)=false:=rfl
 simp only [znY,iN,bT,bF,eN]
 cases h1:decide (seq ≥ 1)
 ·refine zB h1 ?_
  refine zw hl ?_
  exact fin _ (by rw [zlb,h1];rfl)
 cases h2:decide (seq<=9007199254740992)
 ·refine zB (zn h1 h2) ?_
  refine zw hl ?_
  exact fin _ (by rw [zlb,h1,h2];rfl)
 cases h3:(seq.tmod 4 == 0)
 ·refine zB (zn h1 (zn h2 (zn e4 h3))) ?_
  refine zw hl ?_
  exact fin _ (by rw [zlb,h1,h2,h3];rfl)
 cases h4:decide (d ≥ 1)
 ·refine zB (zn h1 (zn h2 (zn e4 (zn h3 h4)))) ?_
  refine zw hl ?_
  exact fin _ (by rw [zlb,h1,h2,h3,h4];rfl)
 cases h5:decide (d<=9007199254740992)
 ·refine zB (zn h1 (zn h2 (zn e4 (zn h3 (zn h4 h5))))) ?_
  refine zw hl ?_
  exact fin _ (by rw [zlb,h1,h2,h3,h4,h5];rfl)
 cases h6:decide (key ≥ 0)
 ·refine zB (zn h1 (zn h2 (zn e4 (zn h3 (zn h4 (zn h5 h6)))))) ?_
  refine zw hl ?_
  exact fin _ (by rw [zlb,h1,h2,h3,h4,h5,h6];rfl)
 refine zB (zn h1 (zn h2 (zn e4 (zn h3 (zn h4 (zn h5 (zn h6 hσ))))))) ?_
 refine zmz ?_
 refine zab ?_
 refine zw hl ?_
 exact fin _ (by rw [zlb,h1,h2,h3,h4,h5,h6];rfl)
theorem zis {l:List zK} {k:Nat} {s:zK} (h:l[k]? = some s):aheadS l (k+1)=some s:=h
abbrev certO (c:zft):zh := .box [.d (.int .i64 c.seq),.d (.int .i64 c.dig),.d (.slice (zap c.signs))]
theorem c_ptMayCert {σ:List zh} {id:Nat} {f:Int} {c:zft} {cs:List AV} (hσ : σ[id]? = some (.box (.d (.int .i64 f) :: cs))) (hl0:c.signs.length<=1073741824) {K:KT} (hK:K (.d (.bool (zfn f c))) σ) :
  zo Tryz.prog zfD [.box id 0,zgc c] σ K:=by
 refine zd zhM.is rfl fun hl _=>zhM.goes ?_
 have fin:∀ z,zfn f c=z->K (.d (.bool z)) σ:=fun z h=>h ▸ hK
 clear hK
 have hlen:(zap c.signs).length=c.signs.length:=List.length_map ..
 have hS:∀ τ,(σ ++ τ)[id]? = some (.box (.d (.int .i64 f) :: cs)):=fun τ=>zx hσ
 simp only [zhW,iN,bT,bF,eN,zgc]
 refine zab ?_
 refine c_ptZero (c:=c) ?_
 cases hz:zte c
 rotate_left
 ·refine zab ?_
  refine zw hl ?_
  exact fin _ (by rw [zfn,hz];rfl)
 refine zB hlen ?_
 refine zm c.signs.length (fun k vs s=>vs = [.d (.int .i64 k)]/\(∃ T,s = σ++certO c :: T)/\zzR f c.seq c.dig none c.signs=zzR f c.seq c.dig (aheadS c.signs k) (c.signs.drop k)) ⟨rfl,⟨[],rfl⟩,rfl⟩ ?_
 rintro k vs s hk ⟨rfl,⟨T,rfl⟩,hpf⟩
 have no:zzR f c.seq c.dig none c.signs=false->zfn f c=false:=fun h=>by rw [zfn,hz,h,Bool.and_false];rfl
 by_cases hlt:k<c.signs.length
 ·have hd:decide ((k:Int)<(c.signs.length:Int))=true:=by simp;omega
  have hx:c.signs[k]? = some c.signs[k]:=by simp [hlt]
  have hgx:=zR (f:=zgf) hx
  obtain ⟨x,hxe⟩:∃ x,c.signs[k]=x:=⟨_,rfl⟩
  rw [hxe] at hx hgx
  rw [zyd hx] at hpf
  refine zhH (zn hd hgx) ?_
  refine c_ptMay (hS _) ?_
  cases h1:zlb f c.seq c.dig x.key
  ·refine zab ?_
   refine zw hl ?_
   exact fin _ (no (by rw [hpf,h1];rfl))
  rw [h1,Bool.true_and] at hpf
  cases k with
  | zero =>
   refine zB (zn (show decide (((0:Nat):Int) > 0)=false from rfl) (wkc 0 (by omega))) ?_
   exact zaz.next hlt ⟨rfl,⟨_,rfl⟩,by rw [hpf,zis hx];rfl⟩
  | succ j =>
   have hz1:decide (((j+1:Nat):Int) > 0)=true:=decide_eq_true (by omega)
   have hw1:IntKind.i64.wrap (((j+1:Nat):Int) - 1)=(j:Int):=by rw [zas (by omega) (by omega)];omega
   have hy:c.signs[j]? = some c.signs[j]:=by simp [show j<c.signs.length by omega]
   have hgy:=zR (f:=zgf) hy
   obtain ⟨y,hye⟩:∃ y,c.signs[j]=y:=⟨_,rfl⟩
   rw [hye] at hy hgy
   rw [zis hy] at hpf
   simp only at hpf
   cases h2:decide (x.key<=y.key)
   ·refine zhH (zn hz1 (zn hw1 (zn hgx (zn hgy (zn h2 (wkc (j+1) (by omega))))))) ?_
    exact zaz.next hlt ⟨rfl,⟨_,rfl⟩,by rw [hpf,h2,zis hx];simp⟩
   ·refine zhH (zn hz1 (zn hw1 (zn hgx (zn hgy h2)))) ?_
    refine zw hl ?_
    exact fin _ (no (by rw [hpf,h2];rfl))
 ·have hd:decide ((k:Int)<(c.signs.length:Int))=false:=by simp;omega
  rw [List.drop_eq_nil_of_le (by omega)] at hpf
  refine zB (zn hd (zn hlen hS)) ?_
  refine c_quBig ?_
  refine zab ?_
  refine zw hl ?_
  exact fin _ (by rw [zfn,hz,hpf];simp [zzR])
theorem c_r14MayCert {σ:List zh} {id:Nat} {f:Int} {c:zft} {cs:List AV} (hσ : σ[id]? = some (.box (.d (.int .i64 f) :: cs))) (hl0:c.signs.length<=1073741824) {K:KT} (hK:K (.d (.bool (zfn f c))) σ) :
  zo Tryz.prog zgr [.box id 0,zgc c] σ K:=by
 refine zd zjy.is rfl fun hl _=>zjy.goes ?_
 have fin:∀ z,zfn f c=z->K (.d (.bool z)) σ:=fun z h=>h ▸ hK
 clear hK
 have hlen:(zap c.signs).length=c.signs.length:=List.length_map ..
 have hS:∀ τ,(σ ++ τ)[id]? = some (.box (.d (.int .i64 f) :: cs)):=fun τ=>zx hσ
 simp only [zjG,iN,bT,bF,eN,zgc]
 refine zab ?_
 refine c_r14Zero (c:=c) ?_
 cases hz:zte c
 rotate_left
 ·refine zab ?_
  refine zw hl ?_
  exact fin _ (by rw [zfn,hz];rfl)
 refine zB (zn hlen hS) ?_
 refine c_rBig ?_
 cases hb:decide ((c.signs.length:Int)<zaW 2 f)
 rotate_left
 ·refine zB hb ?_
  refine zw hl ?_
  refine fin _ ?_
  have:decide ((c.signs.length:Int) ≥ zaW 2 f)=false:=by simp at hb ⊢;omega
  rw [zfn,hz,this];rfl
 have hb2:decide ((c.signs.length:Int) ≥ zaW 2 f)=true:=by simp at hb ⊢;omega
 refine zB hb ?_
 refine zm c.signs.length (fun k vs s=>vs = [.d (.int .i64 k)]/\s = σ++[certO c]/\zfn f c=zzR f c.seq c.dig (aheadS c.signs k) (c.signs.drop k)) ⟨rfl,rfl,by rw [zfn,hz,hb2];rfl⟩ ?_
 rintro k vs s hk ⟨rfl,rfl,hpf⟩
 by_cases hlt:k<c.signs.length
 ·have hd:decide ((k:Int)<(c.signs.length:Int))=true:=by simp;omega
  have hx:c.signs[k]? = some c.signs[k]:=by simp [hlt]
  have hgx:=zR (f:=zgf) hx
  obtain ⟨x,hxe⟩:∃ x,c.signs[k]=x:=⟨_,rfl⟩
  rw [hxe] at hx hgx
  rw [zyd hx] at hpf
  refine zhH (zn hd (zn hgx hlen)) ?_
  refine c_r14May (hS _) ?_
  cases h1:zlb f c.seq c.dig x.key
  ·refine zab ?_
   refine zw hl ?_
   exact fin _ (by rw [hpf,h1];rfl)
  rw [h1,Bool.true_and] at hpf
  cases k with
  | zero =>
   refine zB (zn (show decide (((0:Nat):Int) > 0)=false from rfl) (wkc 0 (by omega))) ?_
   exact zaz.next hlt ⟨rfl,rfl,by rw [hpf,zis hx];rfl⟩
  | succ j =>
   have hz1:decide (((j+1:Nat):Int) > 0)=true:=decide_eq_true (by omega)
   have hw1:IntKind.i64.wrap (((j+1:Nat):Int) - 1)=(j:Int):=by rw [zas (by omega) (by omega)];omega
   have hy:c.signs[j]? = some c.signs[j]:=by simp [show j<c.signs.length by omega]
   have hgy:=zR (f:=zgf) hy
   obtain ⟨y,hye⟩:∃ y,c.signs[j]=y:=⟨_,rfl⟩
   rw [hye] at hy hgy
   rw [zis hy] at hpf
   simp only at hpf
   cases h2:decide (x.key<=y.key)
   ·refine zhH (zn hz1 (zn hw1 (zn hgx (zn hgy (zn h2 (wkc (j+1) (by omega))))))) ?_
    exact zaz.next hlt ⟨rfl,rfl,by rw [hpf,h2,zis hx];simp⟩
   ·refine zhH (zn hz1 (zn hw1 (zn hgx (zn hgy h2)))) ?_
    refine zw hl ?_
    exact fin _ (by rw [hpf,h2];rfl)
 ·have hd:decide ((k:Int)<(c.signs.length:Int))=false:=by simp;omega
  rw [List.drop_eq_nil_of_le (by omega)] at hpf
  refine zB (zn hd hlen) ?_
  refine zw hl ?_
  exact fin _ (by rw [hpf];rfl)
theorem c_ptNew {σ:List zh} {f:Int} {K:KT} (hN:zbN f ≠ 0->K (.tup [.d .nilp,.d (.int .i64 (zbN f))]) σ)
  (hY:zbN f=0->K (.tup [.box (σ.length+1) 0,.d (.int .i64 0)]) (σ++[.map [],.box [.d (.int .i64 f),.d (.int .i64 0),.d (.int .i64 0),.exact [],.map σ.length,.exact []]])):zo Tryz.prog zrs [.d (.int .i64 f)] σ K:=by
 refine zce zws.is rfl (fun s=>if s.length = σ.length then [] else List.range' σ.length 2) fun hl _=>zws.goes ?_
 simp only [zxk,iN,bT,bF,eN]
 refine zab ?_
 refine zmA ?_
 cases h:(zbN f != 0)
 ·have h0:zbN f=0:=by simpa using h
  refine zB h ?_
  refine zes (os := [.map [],.box [.d (.int .i64 f),.d (.int .i64 0),.d (.int .i64 0),.exact [],.map σ.length,.exact []]]) rfl (by simp) hl ?_ ?_ (hY h0)
  ·intro x hx
   simp only [List.mem_cons,List.not_mem_nil,or_false] at hx
   rcases hx with rfl | rfl
   ·intro e he;simp at he
   ·intro c hc
    simp only [List.mem_cons,List.not_mem_nil,or_false] at hc
    rcases hc with rfl | rfl | rfl | rfl | rfl | rfl
    ·exact .d _
    ·exact .d _
    ·exact .d _
    ·exact .exact _
    ·exact .map _ (by simp)
    ·exact .exact _
  ·simp [zcO,zaU,Low_box,zfO]
 ·refine zB h ?_
  exact zkv (by simp) hl (by simp [zcO,zeR,zmd]) (hN (by simpa using h))
end Go.Proofs.YtpgahkdjkanblaaGreat
