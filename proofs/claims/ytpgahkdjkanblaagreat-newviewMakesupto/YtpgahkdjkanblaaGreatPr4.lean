/- Contracts: votes and certificates, the document's. -/
import Derived.Test.YtpgahkdjkanblaaGreatWr5
import Derived.Test.YtpgahkdjkanblaaGreatPp1
import Derived.Test.YtpgahkdjkanblaaGreatKr4
set_option linter.all false
set_option maxRecDepth 100000
namespace Go.Proofs.YtpgahkdjkanblaaGreat
open Go.AW
theorem zyR {σ:List zh} {id id2:Nat} {L:List (List UInt8)} {G:List zK} {s:zK} {key:Int} {b:List UInt8} (hT : σ[id]? = some (rtO L)) (hG : σ[id2]? = some (rlO G)) (hl0:L.length<=1048576) (hg:G.length<=1073741824) {K:KT}
  (hK:K (.d (.bool (zgY L G s key b))) σ):zo Tryz.prog zlj [.box id 0,.box id2 0,.agg [.d (.int .i64 s.key),.d (.int .i64 s.dig)],.d (.int .i64 key),.d (.slice (bcs b))] σ K:=by
 refine zd zut.is rfl fun hl _=>zut.goes ?_
 simp only [zuJ,iN,bT,bF,eN]
 refine zab ?_
 refine zvl (zx hT) hl0 ?_
 have fin:∀ z,zgY L G s key b=z->K (.d (.bool z)) σ:=fun z h=>h ▸ hK
 clear hK
 cases hlk:zfI L b with
 | none =>
  refine gq72 ?_
  refine zw hl ?_
  exact fin _ (by simp [zgY,hlk])
 | some i =>
  simp only [zvG]
  cases h1:(s.key == key)
  ·refine gq77 h1 ?_
   refine zw hl ?_
   exact fin _ (by simp at h1;simp [zgY,hlk,h1])
  ·cases h2:(s.dig == ((i+1:Nat):Int))
   ·refine gq77 (zn h1 h2) ?_
    refine zw hl ?_
    exact fin _ (by simp at h1 h2;simp [zgY,hlk,h1];omega)
   ·refine gq77 (zn h1 h2) ?_
    refine ztS (s:=s) (zx hG) hg ?_
    refine zab ?_
    refine zw hl ?_
    exact fin _ (by simp at h1 h2;simp [zgY,hlk,h1,h2])
theorem zno {σ:List zh} {id id2:Nat} {L:List (List UInt8)} {G:List zK} {s:zK} {key a b c d:Int} (hT : σ[id]? = some (rtO L)) (hG : σ[id2]? = some (rlO G)) (hl0:L.length<=1048576) (hg:G.length<=1073741824) {K:KT}
  (hK:K (.d (.bool (zgP L G s key a b c d))) σ) :
  zo Tryz.prog zfU [.box id 0,.box id2 0,.agg [.d (.int .i64 s.key),.d (.int .i64 s.dig)],.d (.int .i64 key),.d (.int .i64 a),.d (.int .i64 b),.d (.int .i64 c),.d (.int .i64 d)] σ K:=by
 refine zd zpn.is rfl fun hl _=>zpn.goes ?_
 simp only [zpM,iN,bT,bF,eN]
 refine zab ?_
 refine c_raMay ?_
 cases hm:zvi a b c d
 ·rw [zgP,hm,Bool.false_and] at hK
  refine zab ?_
  refine zw hl ?_
  exact hK
 ·rw [zgP,hm,Bool.true_and] at hK
  refine zab ?_
  refine zsF hm ?_
  refine zab ?_
  refine zyR (s:=s) (zx hT) (zx hG) hl0 hg ?_
  refine zab ?_
  refine zw hl ?_
  exact hK
theorem zyS {σ:List zh} {f v:Int} {K:KT} (hK:K (.d (.int .i64 (zcf f v))) σ):zo Tryz.prog zjO [.d (.int .i64 f),.d (.int .i64 v)] σ K:=by
 refine zd zst.is rfl fun hl _=>zst.goes ?_
 simp only [zsR,iN,bT,bF,eN]
 refine zab ?_
 refine zkK ?_
 have fin:∀ z,zcf f v=z->K (.d (.int .i64 z)) σ:=fun z h=>h ▸ hK
 clear hK
 by_cases h:f<1 ∨ f > 4
 ·rw [zbN,if_pos h]
  refine zB (show ((120:Int) != 0)=true from rfl) ?_
  refine zw hl ?_
  exact fin _ (by rw [zcf,if_pos (.inl h)])
 ·rw [zbN,if_neg h]
  cases h1:decide (v<0)
  rotate_left
  ·refine zB (zn (show ((0:Int) != 0)=false from rfl) h1) ?_
   refine zw hl ?_
   exact fin _ (by rw [zcf,if_pos (.inr (.inl (by simpa using h1)))])
  cases h2:decide (v > 9007199254740992)
  rotate_left
  ·refine zB (zn (show ((0:Int) != 0)=false from rfl) (zn h1 h2)) ?_
   refine zw hl ?_
   exact fin _ (by rw [zcf,if_pos (.inr (.inr (by simpa using h2)))])
  simp only [decide_eq_false_iff_not] at h1 h2
  have hz:(3 * f+1 == 0)=false:=by simp;omega
  refine zB (zn (show ((0:Int) != 0)=false from rfl) (zn (decide_eq_false h1) (decide_eq_false h2))) ?_
  refine zmz ?_
  rw [zaW,if_neg h]
  refine zB hz ?_
  refine zw hl ?_
  exact fin _ (by rw [zcf,if_neg (by omega)])
theorem c_r15Valid {σ:List zh} {id id2:Nat} {L:List (List UInt8)} {G:List zK} {f:Int} {p:zcb} (hT : σ[id]? = some (rtO L)) (hG : σ[id2]? = some (rlO G)) (hL:znT L) (hg:G.length<=1073741824) (hp:smallP p)
  {K:KT} (hK:K (.d (.bool (ziN L G f p))) σ):zo Tryz.prog zrj [.box id 0,.box id2 0,.d (.int .i64 f),prepA p] σ K:=by
 refine zd zwd.is rfl fun hl _=>zwd.goes ?_
 have fin:∀ z,ziN L G f p=z->K (.d (.bool z)) σ:=fun z h=>h ▸ hK
 clear hK
 simp only [zwV,iN,bT,bF,eN,prepA]
 refine zab ?_
 refine zkK ?_
 by_cases h0:f<1 ∨ f > 4
 ·rw [zbN,if_pos h0]
  refine zB (show ((120:Int) != 0)=true from rfl) ?_
  refine zw hl ?_
  exact fin _ (by simp [ziN,zjs,zbN,h0])
 have hc0:zbN f=0:=if_neg h0
 rw [hc0]
 cases h1:decide (p.view<0)
 rotate_left
 ·refine zB (zn (show ((0:Int) != 0)=false from rfl) h1) ?_
  refine zw hl ?_
  exact fin _ (by simp [ziN,zjs,h1])
 cases h2:decide (p.view > 9007199254740992)
 rotate_left
 ·refine zB (zn (show ((0:Int) != 0)=false from rfl) (zn h1 h2)) ?_
  refine zw hl ?_
  exact fin _ (by simp [ziN,zjs,h2])
 cases h3:decide (p.seq<1)
 rotate_left
 ·refine zB (zn (show ((0:Int) != 0)=false from rfl) (zn h1 (zn h2 h3))) ?_
  refine zw hl ?_
  exact fin _ (by simp [ziN,zjs,h3])
 cases h4:decide (p.seq > 9007199254740992)
 rotate_left
 ·refine zB (zn (show ((0:Int) != 0)=false from rfl) (zn h1 (zn h2 (zn h3 h4)))) ?_
  refine zw hl ?_
  exact fin _ (by simp [ziN,zjs,h4])
 have hok:zjs f p=true:=by simp [zjs,hc0,h1,h2,h3,h4]
 have hpf:ziN L G f p=(zie L G p.batch && prepG L G f p):=by rw [ziN,hok,Bool.true_and]
 refine zB (zn (show ((0:Int) != 0)=false from rfl) (zn h1 (zn h2 (zn h3 h4)))) ?_
 refine zwG (b:=p.batch) (zx hT) (zx hG) hL hg hp.ops hp.batch ?_
 cases h5:zie L G p.batch
 ·refine zab ?_
  refine zw hl ?_
  exact fin _ (by rw [hpf,h5];rfl)
 rw [h5,Bool.true_and] at hpf
 have hcb:=zuf h5
 have hw2:IntKind.i64.wrap (2 * f)=2 * f:=zas (by omega) (by omega)
 have hlen:(zap p.signs).length=p.signs.length:=List.length_map ..
 cases h9:((p.signs.length:Int) == 2 * f)
 ·have h9':((p.signs.length:Int) != 2 * f)=true:=by simpa using h9
  refine zB (zn hw2 (zn hlen h9')) ?_
  refine zw hl ?_
  refine fin _ ?_
  rw [hpf,prepG]
  split
  ·rw [prepH,h9];simp
  ·rfl
 have h9':((p.signs.length:Int) != 2 * f)=false:=by simpa using h9
 refine zB (zn hw2 (zn hlen h9')) ?_
 refine znp (b := []) (by simp) hp.ops hp.batch ?_
 rw [List.nil_append,show zbY p.batch=zcy p.batch from if_pos hcb]
 refine zab ?_
 refine zvl (zx hT) hL.len ?_
 refine zab ?_
 refine zyS ?_
 cases h6:zfI L (zcy p.batch) with
 | none =>
  refine gq72 ?_
  refine zw hl ?_
  exact fin _ (by simp only [hpf,prepG,h6])
 | some i =>
  simp only [prepG,h6] at hpf
  simp only [zvG]
  cases h7:(((i+1:Nat):Int) == p.dig)
  ·have h7':(((i+1:Nat):Int) != p.dig)=true:=by simpa using h7
   refine gq77 h7' ?_
   refine zw hl ?_
   exact fin _ (by rw [hpf,h7];rfl)
  have h7':(((i+1:Nat):Int) != p.dig)=false:=by simpa using h7
  have h7e:((i+1:Nat):Int)=p.dig:=by simpa using h7
  simp only [h7,Bool.true_and] at hpf
  rw [h7e] at h7' ⊢
  refine gq77 h7' ?_
  refine zno (s:=⟨p.fkey,p.fdig⟩) (zx hT) (zx hG) hL.len hg ?_
  cases h8:zgP L G ⟨p.fkey,p.fdig⟩ (zcf f p.view) 2 p.view p.seq p.dig
  ·refine zab ?_
   refine zw hl ?_
   exact fin _ (by rw [hpf,prepH,h8];rfl)
  rw [prepH,h8,Bool.true_and,h9,Bool.true_and] at hpf
  refine zab ?_
  refine zm p.signs.length (fun k vs s => ∃ last:Int,vs = [.d (.int .i64 last),.d (.int .i64 k)]/\s = σ++[.box [.d (.int .i64 p.view),.d (.int .i64 p.seq),.d (.int .i64 p.dig),.d (.int .i64 p.fkey),.d (.int .i64 p.fdig),.d (.slice (zap p.signs)),.d (.slice (zbj p.batch))]] ∧
   ziN L G f p=zxK L G f (zcf f p.view) p.view p.seq p.dig last (p.signs.drop k)) ⟨-1,rfl,rfl,by simpa using hpf⟩ ?_
  rintro k vs s hk ⟨last,rfl,rfl,hpf⟩
  by_cases hlt:k<p.signs.length
  ·have hd:decide ((k:Int)<(p.signs.length:Int))=true:=by simp;omega
   have hx:p.signs[k]? = some p.signs[k]:=by simp [hlt]
   have hgx:=zR (f:=zgf) hx
   obtain ⟨x,hxe⟩:∃ x,p.signs[k]=x:=⟨_,rfl⟩
   rw [hxe] at hx hgx
   have hsl:=hp.signs
   rw [zxJ hx] at hpf
   have hw:IntKind.i64.wrap ((k:Int)+1)=((k+1:Nat):Int):=by rw [zas (by omega) (by omega)];rfl
   cases g1:decide (x.key<=last)
   rotate_left
   ·refine zqn (zn hd (zn hgx (zn hlen g1))) ?_
    refine zw hl ?_
    exact fin _ (by rw [hpf,g1];rfl)
   refine zqn (zn hd (zn hgx (zn hlen g1))) ?_
   refine zmz ?_
   cases g2:decide (x.key ≥ zaW 3 f)
   rotate_left
   ·refine zB g2 ?_
    refine zw hl ?_
    exact fin _ (by rw [hpf,g1,g2];rfl)
   cases g3:(x.key == zcf f p.view)
   rotate_left
   ·refine zB (zn g2 g3) ?_
    refine zw hl ?_
    exact fin _ (by rw [hpf,g1,g2,g3];rfl)
   rw [g1,g2,g3] at hpf
   simp only [Bool.not_false,Bool.true_and] at hpf
   refine zqn (zn g2 (zn g3 hgx)) ?_
   refine zno (s:=x) (zx hT) (zx hG) hL.len hg ?_
   cases g4:zgP L G x x.key 3 p.view p.seq p.dig
   ·rw [g4] at hpf
    refine zab ?_
    refine zw hl ?_
    exact fin _ hpf
   ·rw [g4,Bool.true_and] at hpf
    refine zB hw ?_
    exact zaz.next hlt ⟨x.key,rfl,rfl,hpf⟩
  ·have hd:decide ((k:Int)<(p.signs.length:Int))=false:=by simp;omega
   rw [List.drop_eq_nil_of_le (by omega)] at hpf
   refine zB (zn hd hlen) ?_
   refine zw hl ?_
   exact fin _ hpf
end Go.Proofs.YtpgahkdjkanblaaGreat

/- Contracts: which view-changes and new views are signed, the document's. -/
set_option maxRecDepth 100000
namespace Go.Proofs.YtpgahkdjkanblaaGreat
open Go.AW
theorem c_kSigned {σ:List zh} {k:Int} {K:KT} (hK:K (.d (.bool (zvE k))) σ):zo Tryz.prog zoU [.d (.int .i64 k)] σ K:=by
 refine zd zuv.is rfl fun hl _=>zuv.goes ?_
 have fin:∀ z,zvE k=z->K (.d (.bool z)) σ:=fun z h=>h ▸ hK
 clear hK
 simp only [zuL,iN,bT,bF,eN]
 cases h1:decide (k ≥ 2)
 ·refine zB h1 ?_
  refine zw hl ?_
  exact fin _ (by simp at h1;simp [zvE];omega)
 cases h2:decide (k<=9)
 ·refine zB (zn h1 h2) ?_
  refine zw hl ?_
  exact fin _ (by simp at h2;simp [zvE];omega)
 refine zB (zn h1 h2) ?_
 refine zw hl ?_
 refine fin _ ?_
 simp at h1 h2
 rw [Bool.eq_iff_iff]
 simp [zvE,h1,h2]
theorem c_kShort {σ:List zh} {b:List UInt8} {K:KT} (hK:K (.tup [.d (.slice (bcs (if b.length > 262144 then [] else b))),.d (.int .i64 (if b.length > 262144 then 3 else 0))]) σ) :
  zo Tryz.prog zro [.d (.slice (bcs b)),.d (.int .i64 0)] σ K:=by
 refine zd zwk.is rfl fun hl _=>zwk.goes ?_
 simp only [zxc,iN,bT,bF,eN]
 by_cases h:b.length > 262144
 ·have hd:decide ((b.length:Int) > 262144)=true:=by simp;omega
  rw [if_pos h,if_pos h] at hK
  refine zB hd ?_
  refine zw hl ?_
  exact hK
 ·have hd:decide ((b.length:Int) > 262144)=false:=by simp;omega
  rw [if_neg h,if_neg h] at hK
  refine zB hd ?_
  refine zw hl ?_
  exact hK
theorem c_kBody7 {σ:List zh} {m:zee} {c:zU} (hk:m.kind=7) (hch:m.changes = [c]) (hc:∀ e ∈ zez c,e=0) {K:KT} (hK:K (.tup [.d (.slice (bcs (zkb m))),.d (.bool true)]) σ) :
  zo Tryz.prog zmh [zge m] σ K:=by
 refine zd zqq.is rfl fun hl _=>zqq.goes ?_
 have hgx:(zan m.changes)[0]? = some (zaE c):=by rw [hch];rfl
 have hgl:(zan m.changes).length=1:=by rw [hch];rfl
 have n1:=zp (n:=m.kind.toNat) (by omega)
 simp only [zuc,iN,bT,bF,eN]
 refine zab ?_
 refine zqS (b := []) (l := [m.kind]) (by simp) (by simp) (by simp;omega) ?_
 refine zhH (zn (show (m.kind == 1)=false by rw [hk];rfl) (zn (show (m.kind == 2)=false by rw [hk];rfl) (zn (show (m.kind == 3)=false by rw [hk];rfl) (zn (show (m.kind == 4)=false by rw [hk];rfl) (zn (show (m.kind == 5)=false by rw [hk];rfl) (zn (show (m.kind == 6)=false by rw [hk];rfl) (zn (show (m.kind == 7)=true by rw [hk];rfl) (zn (show (m.kind == 8)=false by rw [hk];rfl) (zn (show (m.kind == 9)=false by rw [hk];rfl) (zn (show (m.kind == 10)=false by rw [hk];rfl) (zn (show (m.kind == 11)=false by rw [hk];rfl) (zn (show (m.kind == 12)=false by rw [hk];rfl) (zn hgx hgl))))))))))))) ?_
 refine zyU (c:=c) (b := []++zaV [m.kind]) (by simp [zaV];omega) hc ?_
 refine zab ?_
 refine zw hl ?_
 have fin:∀ x,x=zkb m->K (dmT (zcO [.d (.slice (bcs x)),.d (.bool true)])) σ:=by rintro _ rfl;exact hK
 exact fin _ (by simp [zkb,hk,hch,zaV])
theorem c_kBody8 {σ:List zh} {m:zee} (hk:m.kind=8) (hc:∀ e ∈ zfS m,e=0) {K:KT} (hK:K (.tup [.d (.slice (bcs (zkb m))),.d (.bool true)]) σ) :
  zo Tryz.prog zmh [zge m] σ K:=by
 refine zd zqq.is rfl fun hl _=>zqq.goes ?_
 have hcl:(zan m.changes).length=m.changes.length:=List.length_map ..
 have hel:(zaw m.entries).length=m.entries.length:=List.length_map ..
 obtain ⟨h1,h2,h3,h4,h5,h6⟩:=newv_ok hc
 have n0:=zp (n:=m.kind.toNat) (by omega)
 have n1:=zp (n:=m.src.toNat) (by omega)
 have n2:=zp (n:=m.view.toNat) (by omega)
 have n3:=zp (n:=m.changes.length) (by omega)
 have n4:=zp (n:=m.entries.length) (by omega)
 simp only [zuc,iN,bT,bF,eN]
 refine zab ?_
 refine zqS (b := []) (l := [m.kind]) (by simp) (by simp) (by simp;omega) ?_
 refine zB (zn (show (m.kind == 1)=false by rw [hk];rfl) (zn (show (m.kind == 2)=false by rw [hk];rfl) (zn (show (m.kind == 3)=false by rw [hk];rfl) (zn (show (m.kind == 4)=false by rw [hk];rfl) (zn (show (m.kind == 5)=false by rw [hk];rfl) (zn (show (m.kind == 6)=false by rw [hk];rfl) (zn (show (m.kind == 7)=false by rw [hk];rfl) (zn (show (m.kind == 8)=true by rw [hk];rfl) (zn (show (m.kind == 9)=false by rw [hk];rfl) (zn (show (m.kind == 10)=false by rw [hk];rfl) (zn (show (m.kind == 11)=false by rw [hk];rfl) (zn (show (m.kind == 12)=false by rw [hk];rfl) hcl)))))))))))) ?_
 refine zqS (l := [m.src,m.view,(m.changes.length:Int)]) (b := []++zaV [m.kind]) (by simp [zaV];omega) (by simp) (by simp;omega) ?_
 obtain ⟨Q,hQ⟩:∃ Q,[]++zaV [m.kind]++zaV [m.src,m.view,(m.changes.length:Int)]=Q:=⟨_,rfl⟩
 have hQl:Q.length<=1000:=by rw [← hQ];simp [zaV];omega
 rw [hQ]
 refine zB hcl ?_
 refine zm m.changes.length (fun k vs s=>vs = [.d (.slice (bcs (Q++((m.changes.take k).map zgb).flatten))),.d (.int .i64 k)]/\s = σ++[zqE m]) ⟨by simp,rfl⟩ ?_
 rintro k vs s hk0 ⟨rfl,rfl⟩
 have hlenC:(((m.changes.take k).map zgb).flatten).length<=13 * 36020:=by
  have:=zdQ (f:=zgb) (n := 36020) (l:=m.changes.take k) fun s hm=>zrB (h4 s (List.mem_of_mem_take hm))
  have hlk:(m.changes.take k).length<=13:=by rw [List.length_take];omega
  have:(m.changes.take k).length * 36020<=13 * 36020:=Nat.mul_le_mul_right _ hlk
  omega
 by_cases hlt:k<m.changes.length
 ·have hd:decide ((k:Int)<(m.changes.length:Int))=true:=by simp;omega
  have hx:m.changes[k]? = some m.changes[k]:=by simp [hlt]
  have hpx:=h4 _ (List.getElem_mem hlt)
  have hgx:=zR (f:=zaE) hx
  obtain ⟨p,hp⟩:∃ p,m.changes[k]=p:=⟨_,rfl⟩
  rw [hp] at hx hgx hpx
  refine zhH (zn hd (zn hgx hcl)) ?_
  refine c_kPutChange (c:=p) (by simp only [List.length_append];omega) hpx ?_
  refine zB (wkc k (by omega)) ?_
  exact zaz.next hlt ⟨by rw [zeq hx];try simp,rfl⟩
 have hd:decide ((k:Int)<(m.changes.length:Int))=false:=by simp;omega
 rw [show m.changes.take k=m.changes from List.take_of_length_le (by omega)] at hlenC ⊢
 refine zB (zn hd (zn hcl hel)) ?_
 refine zqS (l := [(m.entries.length:Int)]) (by simp only [List.length_append];omega) (by simp) (by simp;omega) ?_
 obtain ⟨R,hR⟩:∃ R,Q++(m.changes.map zgb).flatten++zaV [(m.entries.length:Int)]=R:=⟨_,rfl⟩
 have hRl:R.length<=1000000:=by rw [← hR];simp only [zaV,List.map_cons,List.map_nil,List.flatten_cons,List.flatten_nil,List.append_nil,List.length_append,Int.toNat_natCast];omega
 rw [hR]
 refine zB hel ?_
 refine zm m.entries.length (fun k vs s=>vs = [.d (.slice (bcs (R++((m.entries.take k).map zny).flatten))),.d (.int .i64 k)]/\∃ T,s = σ++zqE m :: T) ⟨by simp,[],rfl⟩ ?_
 rintro k vs s hk1 ⟨rfl,T,rfl⟩
 by_cases hlt:k<m.entries.length
 ·have hd:decide ((k:Int)<(m.entries.length:Int))=true:=by simp;omega
  have hx:m.entries[k]? = some m.entries[k]:=by simp [hlt]
  have hpx:=h6 _ (List.getElem_mem hlt)
  have hgx:=zR (f:=zed) hx
  obtain ⟨p,hp⟩:∃ p,m.entries[k]=p:=⟨_,rfl⟩
  rw [hp] at hx hgx hpx
  have hlen:(((m.entries.take k).map zny).flatten).length<=(m.entries.take k).length * 4040:=zdQ fun s hm=>ztN (h6 s (List.mem_of_mem_take hm))
  have hlk:(m.entries.take k).length=k:=by rw [List.length_take];omega
  obtain ⟨X,hX⟩:∃ X,R++((m.entries.take k).map zny).flatten=X:=⟨_,rfl⟩
  have hXl:X.length<=2000000:=by rw [← hX,List.length_append];omega
  rw [hX]
  obtain ⟨p1,p2,p3,p4⟩:=zAa hpx
  have m1:=zp (n:=p.view.toNat) (by omega)
  have m2:=zp (n:=p.seq.toNat) (by omega)
  have m3:=(zgN p3).2
  have hsb:zbR p.key p.dig=zfR p.key p.dig:=by simp [zbR,p4]
  have hbb:zbY p.batch=zcy p.batch:=by simp [zbY,p3]
  have hbx0:(σ++zqE m :: T)[σ.length]? = some (zqE m):=by rw [zt];rfl
  have hbx:∀ τ,(σ++zqE m :: T ++ τ)[σ.length]? = some (zqE m):=fun τ=>zx hbx0
  have fin:∀ τ, ∃ T', σ++zqE m :: T ++ τ = σ++zqE m :: T':=fun τ=>⟨T ++ τ,by simp⟩
  obtain ⟨S,hS⟩:∃ S, σ++zqE m :: T=S:=⟨_,rfl⟩
  rw [hS] at hbx hbx0 fin ⊢
  refine zhH (zn hd (zn hgx (zn hel (zn hbx hbx0)))) ?_
  refine zqS (l := [p.view,p.seq]) (by omega) (by simp) (by simp;omega) ?_
  refine zab ?_
  refine znp (by simp [zaV];omega) (fun x hx=>Nat.le_trans ((zgN p3).1 x hx) (by omega)) (by have:=(zjX p3).1;omega) ?_
  rw [hbb]
  refine zab ?_
  refine ziq (by simp [zaV];omega) ?_
  rw [hsb]
  refine zB (wkc k (by omega)) ?_
  refine zaz.next hlt ⟨?_,fin _⟩
  rw [zeq hx, ← hX]
  simp [zny,zaV]
 ·have hd:decide ((k:Int)<(m.entries.length:Int))=false:=by simp;omega
  have hbx0:(σ++zqE m :: T)[σ.length]? = some (zqE m):=by rw [zt];rfl
  rw [show m.entries.take k=m.entries from List.take_of_length_le (by omega)]
  obtain ⟨S,hS⟩:∃ S,zqE m :: T=S:=⟨_,rfl⟩
  rw [hS] at hbx0 ⊢
  refine zB (zn hd (zn hel hbx0)) ?_
  refine zw hl ?_
  have fin:∀ x,x=zkb m->K (dmT (zcO [.d (.slice (bcs x)),.d (.bool true)])) σ:=by rintro _ rfl;exact hK
  exact fin _ (by rw [← hR, ← hQ];simp [zkb,hk,newvB,zaV])
end Go.Proofs.YtpgahkdjkanblaaGreat
