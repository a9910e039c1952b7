/- Contracts: votes and certificates, the document's. -/
import Derived.Test.YtpgahkdjkanblaaGreatAu3
import Derived.Test.YtpgahkdjkanblaaGreatRq2
import Derived.Test.YtpgahkdjkanblaaGreatId5
set_option linter.all false
set_option maxRecDepth 100000
namespace Go.Proofs.YtpgahkdjkanblaaGreat
open Go.AW
theorem ztS {σ:List zd} {id id2:Nat} {L:List (List UInt8)} {G:List zy} {s:zy} {key:Int} {b:List UInt8} (hT : σ[id]? = some (rtO L)) (hG : σ[id2]? = some (rlO G)) (hl0:L.length<=1048576) (hg:G.length<=1073741824) {K:KT}
  (hK:K (.d (.bool (zfJ L G s key b))) σ):zj Tryz.prog zlg [.box id 0,.box id2 0,.agg [.d (.int .i64 s.key),.d (.int .i64 s.dig)],.d (.int .i64 key),.d (.slice (bcs b))] σ K:=by
 refine acE5 e_r11_signed fun hl => ?_
 simp only [zuE,iN,bT,bF,eN]
 refine zQ ?_
 refine zst (zn hT) hl0 ?_
 have fin:∀ z,zfJ L G s key b=z->K (.d (.bool z)) σ:=fun z h=>h▸hK
 clear hK
 cases hlk:zev L b with
 | none=>
  refine gq50 ?_
  refine zt hl ?_
  exact fin _ (by simp [zfJ,hlk])
 | some i=>
  simp only [zlS]
  cases h1:(s.key==key)
  ·refine gq54 h1 ?_
   refine zt hl ?_
   exact fin _ (by simp at h1;simp [zfJ,hlk,h1])
  ·cases h2:(s.dig==((i+1:Nat):Int))
   ·refine gq54 (zi h1 h2) ?_
    refine zt hl ?_
    exact fin _ (by simp at h1 h2;simp [zfJ,hlk,h1];omega)
   ·refine gq54 (zi h1 h2) ?_
    refine ztR (s:=s) (zn hG) hg ?_
    refine zQ ?_
    refine zt hl ?_
    exact fin _ (by simp at h1 h2;simp [zfJ,hlk,h1,h2])
theorem zjN {σ:List zd} {id id2:Nat} {L:List (List UInt8)} {G:List zy} {s:zy} {key a b c d:Int} (hT : σ[id]? = some (rtO L)) (hG : σ[id2]? = some (rlO G)) (hl0:L.length<=1048576) (hg:G.length<=1073741824) {K:KT}
  (hK:K (.d (.bool (zfy L G s key a b c d))) σ) :
  zj Tryz.prog zeI [.box id 0,.box id2 0,.agg [.d (.int .i64 s.key),.d (.int .i64 s.dig)],.d (.int .i64 key),.d (.int .i64 a),.d (.int .i64 b),.d (.int .i64 c),.d (.int .i64 d)] σ K:=by
 refine acE8 zwE fun hl => ?_
 simp only [zpg,iN,bT,bF,eN]
 refine zQ ?_
 refine c_raMay ?_
 cases hm:zvs a b c d
 ·rw [zfy,hm,Bool.false_and] at hK
  refine zQ ?_
  refine zt hl ?_
  exact hK
 ·rw [zfy,hm,Bool.true_and] at hK
  refine zQ ?_
  refine zsv hm ?_
  refine zQ ?_
  refine ztS (s:=s) (zn hT) (zn hG) hl0 hg ?_
  refine zQ ?_
  refine zt hl ?_
  exact hK
theorem ztT {σ:List zd} {f v:Int} {K:KT} (hK:K (.d (.int .i64 (zbG f v))) σ):zj Tryz.prog zhb [.d (.int .i64 f),.d (.int .i64 v)] σ K:=by
 refine zeE zAs fun hl => ?_
 simp only [zsH,iN,bT,bF,eN]
 refine zQ ?_
 refine ziR ?_
 have fin:∀ z,zbG f v=z->K (.d (.int .i64 z)) σ:=fun z h=>h▸hK
 clear hK
 by_cases h:f<1∨f > 4
 ·rw [zbs,if_pos h]
  refine zA (show ((120:Int) != 0)=true from rfl) ?_
  refine zt hl ?_
  exact fin _ (by rw [zbG,if_pos (.inl h)])
 ·rw [zbs,if_neg h]
  cases h1:decide (v<0)
  rotate_left
  ·refine zA (zi (show ((0:Int) != 0)=false from rfl) h1) ?_
   refine zt hl ?_
   exact fin _ (by rw [zbG,if_pos (.inr (.inl (by simpa using h1)))])
  cases h2:decide (v > 9007199254740992)
  rotate_left
  ·refine zA (zi (show ((0:Int) != 0)=false from rfl) (zi h1 h2)) ?_
   refine zt hl ?_
   exact fin _ (by rw [zbG,if_pos (.inr (.inr (by simpa using h2)))])
  simp only [decide_eq_false_iff_not] at h1 h2
  have hz:(3*f+1==0)=false:=by simp;omega
  refine zA (zi (show ((0:Int) != 0)=false from rfl) (zi (decide_eq_false h1) (decide_eq_false h2))) ?_
  refine zmk ?_
  rw [zaR,if_neg h]
  refine zA hz ?_
  refine zt hl ?_
  exact fin _ (by rw [zbG,if_neg (by omega)])
theorem c_r15Valid {σ:List zd} {id id2:Nat} {L:List (List UInt8)} {G:List zy} {f:Int} {p:zbO} (hT : σ[id]? = some (rtO L)) (hG : σ[id2]? = some (rlO G)) (hL:zka L) (hg:G.length<=1073741824) (hp:smallP p)
  {K:KT} (hK:K (.d (.bool (zgY L G f p))) σ):zj Tryz.prog zqL [.box id 0,.box id2 0,.d (.int .i64 f),prepA p] σ K:=by
 refine zAU e_r15_Valid fun hl => ?_
 have fin:∀ z,zgY L G f p=z->K (.d (.bool z)) σ:=fun z h=>h▸hK
 clear hK
 simp only [zxr,iN,bT,bF,eN,prepA]
 refine zQ ?_
 refine ziR ?_
 by_cases h0:f<1∨f > 4
 ·rw [zbs,if_pos h0]
  refine zA (show ((120:Int) != 0)=true from rfl) ?_
  refine zt hl ?_
  exact fin _ (by simp [zgY,zjs,zbs,h0])
 have hc0:zbs f=0:=if_neg h0
 rw [hc0]
 cases h1:decide (p.view<0)
 rotate_left
 ·refine zA (zi (show ((0:Int) != 0)=false from rfl) h1) ?_
  refine zt hl ?_
  exact fin _ (by simp [zgY,zjs,h1])
 cases h2:decide (p.view > 9007199254740992)
 rotate_left
 ·refine zA (zi (show ((0:Int) != 0)=false from rfl) (zi h1 h2)) ?_
  refine zt hl ?_
  exact fin _ (by simp [zgY,zjs,h2])
 cases h3:decide (p.seq<1)
 rotate_left
 ·refine zA (zi (show ((0:Int) != 0)=false from rfl) (zi h1 (zi h2 h3))) ?_
  refine zt hl ?_
  exact fin _ (by simp [zgY,zjs,h3])
 cases h4:decide (p.seq > 9007199254740992)
 rotate_left
 ·refine zA (zi (show ((0:Int) != 0)=false from rfl) (zi h1 (zi h2 (zi h3 h4)))) ?_
  refine zt hl ?_
  exact fin _ (by simp [zgY,zjs,h4])
 have hok:zjs f p=true:=by simp [zjs,hc0,h1,h2,h3,h4]
 have hpf:zgY L G f p=(zgm L G p.batch&&zAd L G f p):=by rw [zgY,hok,Bool.true_and]
 refine zA (zi (show ((0:Int) != 0)=false from rfl) (zi h1 (zi h2 (zi h3 h4)))) ?_
 refine zwZ (b:=p.batch) (zn hT) (zn hG) hL hg hp.ops hp.batch ?_
 cases h5:zgm L G p.batch
 ·refine zQ ?_
  refine zt hl ?_
  exact fin _ (by rw [hpf,h5];rfl)
 rw [h5,Bool.true_and] at hpf
 have hcb:=zui h5
 have hw2:IntKind.i64.wrap (2*f)=2*f:=zab (by omega) (by omega)
 have hlen:(zO p.signs).length=p.signs.length:=List.length_map ..
 cases h9:((p.signs.length:Int)==2*f)
 ·have h9':((p.signs.length:Int) != 2*f)=true:=by simpa using h9
  refine zA (zi hw2 (zi hlen h9')) ?_
  refine zt hl ?_
  refine fin _ ?_
  rw [hpf,zAd]
  split
  ·rw [prepH,h9];simp
  ·rfl
 have h9':((p.signs.length:Int) != 2*f)=false:=by simpa using h9
 refine zA (zi hw2 (zi hlen h9')) ?_
 refine zkD (b := []) (by simp) hp.ops hp.batch ?_
 rw [List.nil_append,show zbw p.batch=zbN p.batch from if_pos hcb]
 refine zQ ?_
 refine zst (zn hT) hL.len ?_
 refine zQ ?_
 refine ztT ?_
 cases h6:zev L (zbN p.batch) with
 | none=>
  refine gq50 ?_
  refine zt hl ?_
  exact fin _ (by simp only [hpf,zAd,h6])
 | some i=>
  simp only [zAd,h6] at hpf
  simp only [zlS]
  cases h7:(((i+1:Nat):Int)==p.dig)
  ·have h7':(((i+1:Nat):Int) != p.dig)=true:=by simpa using h7
   refine gq54 h7' ?_
   refine zt hl ?_
   exact fin _ (by rw [hpf,h7];rfl)
  have h7':(((i+1:Nat):Int) != p.dig)=false:=by simpa using h7
  have h7e:((i+1:Nat):Int)=p.dig:=by simpa using h7
  simp only [h7,Bool.true_and] at hpf
  rw [h7e] at h7' ⊢
  refine gq54 h7' ?_
  refine zjN (s:=⟨p.fkey,p.fdig⟩) (zn hT) (zn hG) hL.len hg ?_
  cases h8:zfy L G ⟨p.fkey,p.fdig⟩ (zbG f p.view) 2 p.view p.seq p.dig
  ·refine zQ ?_
   refine zt hl ?_
   exact fin _ (by rw [hpf,prepH,h8];rfl)
  rw [prepH,h8,Bool.true_and,h9,Bool.true_and] at hpf
  refine zQ ?_
  refine zl p.signs.length (fun k vs s => ∃ last:Int,vs = [.d (.int .i64 last),.d (.int .i64 k)]/\s = σ++[.box [.d (.int .i64 p.view),.d (.int .i64 p.seq),.d (.int .i64 p.dig),.d (.int .i64 p.fkey),.d (.int .i64 p.fdig),.d (.slice (zO p.signs)),.d (.slice (zaP p.batch))]] ∧
   zgY L G f p=zrI L G f (zbG f p.view) p.view p.seq p.dig last (p.signs.drop k)) ⟨-1,rfl,rfl,by simpa using hpf⟩ ?_
  rintro k vs s hk ⟨last,rfl,rfl,hpf⟩
  by_cases hlt:k<p.signs.length
  ·have hd:decide ((k:Int)<(p.signs.length:Int))=true:=by simp;omega
   have hx:p.signs[k]? = some p.signs[k]:=by simp [hlt]
   have hgx:=zF (f:=zfi) hx
   obtain ⟨x,hxe⟩:∃ x,p.signs[k]=x:=⟨_,rfl⟩
   rw [hxe] at hx hgx
   have hsl:=hp.signs
   rw [zys hx] at hpf
   have hw:IntKind.i64.wrap ((k:Int)+1)=((k+1:Nat):Int):=by rw [zab (by omega) (by omega)];rfl
   cases g1:decide (x.key<=last)
   rotate_left
   ·refine zkZ (zi hd (zi hgx (zi hlen g1))) ?_
    refine zt hl ?_
    exact fin _ (by rw [hpf,g1];rfl)
   refine zkZ (zi hd (zi hgx (zi hlen g1))) ?_
   refine zmk ?_
   cases g2:decide (x.key≥zaR 3 f)
   rotate_left
   ·refine zA g2 ?_
    refine zt hl ?_
    exact fin _ (by rw [hpf,g1,g2];rfl)
   cases g3:(x.key==zbG f p.view)
   rotate_left
   ·refine zA (zi g2 g3) ?_
    refine zt hl ?_
    exact fin _ (by rw [hpf,g1,g2,g3];rfl)
   rw [g1,g2,g3] at hpf
   simp only [Bool.not_false,Bool.true_and] at hpf
   refine zkZ (zi g2 (zi g3 hgx)) ?_
   refine zjN (s:=x) (zn hT) (zn hG) hL.len hg ?_
   cases g4:zfy L G x x.key 3 p.view p.seq p.dig
   ·rw [g4] at hpf
    refine zQ ?_
    refine zt hl ?_
    exact fin _ hpf
   ·rw [g4,Bool.true_and] at hpf
    refine zA hw ?_
    exact zan.next hlt ⟨x.key,rfl,rfl,hpf⟩
  ·have hd:decide ((k:Int)<(p.signs.length:Int))=false:=by simp;omega
   rw [List.drop_eq_nil_of_le (by omega)] at hpf
   refine zA (zi hd hlen) ?_
   refine zt hl ?_
   exact fin _ hpf
theorem c_kSigned {σ:List zd} {k:Int} {K:KT} (hK:K (.d (.bool (zvQ k))) σ):zj Tryz.prog zoy [.d (.int .i64 k)] σ K:=by
 refine zdZ e_r10_signed fun hl => ?_
 have fin:∀ z,zvQ k=z->K (.d (.bool z)) σ:=fun z h=>h▸hK
 clear hK
 simp only [zuG,iN,bT,bF,eN]
 cases h1:decide (k≥2)
 ·refine zA h1 ?_
  refine zt hl ?_
  exact fin _ (by simp at h1;simp [zvQ];omega)
 cases h2:decide (k<=9)
 ·refine zA (zi h1 h2) ?_
  refine zt hl ?_
  exact fin _ (by simp at h2;simp [zvQ];omega)
 refine zA (zi h1 h2) ?_
 refine zt hl ?_
 refine fin _ ?_
 simp at h1 h2
 rw [Bool.eq_iff_iff]
 simp [zvQ,h1,h2]
theorem c_kShort {σ:List zd} {b:List UInt8} {K:KT} (hK:K (.tup [.d (.slice (bcs (if b.length > 262144 then [] else b))),.d (.int .i64 (if b.length > 262144 then 3 else 0))]) σ) :
  zj Tryz.prog zqP [.d (.slice (bcs b)),.d (.int .i64 0)] σ K:=by
 refine zeE e_r10_short fun hl => ?_
 simp only [zxx,iN,bT,bF,eN]
 by_cases h:b.length > 262144
 ·have hd:decide ((b.length:Int) > 262144)=true:=by simp;omega
  rw [if_pos h,if_pos h] at hK
  refine zA hd ?_
  refine zt hl ?_
  exact hK
 ·have hd:decide ((b.length:Int) > 262144)=false:=by simp;omega
  rw [if_neg h,if_neg h] at hK
  refine zA hd ?_
  refine zt hl ?_
  exact hK
theorem c_kBody7 {σ:List zd} {m:zcS} {c:zJ} (hk:m.kind=7) (hch:m.changes = [c]) (hc:∀ e∈zey c,e=0) {K:KT} (hK:K (.tup [.d (.slice (bcs (zjb m))),.d (.bool true)]) σ) :
  zj Tryz.prog zlU [zeR m] σ K:=by
 refine zdZ zzf fun hl => ?_
 have hgx:(zR m.changes)[0]? = some (zat c):=by rw [hch];rfl
 have hgl:(zR m.changes).length=1:=by rw [hch];rfl
 have n1:=zm (n:=m.kind.toNat) (by omega)
 simp only [zue,iN,bT,bF,eN]
 refine zQ ?_
 refine zqt (b := []) (l := [m.kind]) (by simp) (by simp) (by simp;omega) ?_
 refine zfG (zi (kk7 hk) (zi hgx hgl)) ?_
 refine zzp (c:=c) (b := []++zaV [m.kind]) (by simp [zaV];omega) hc ?_
 refine zQ ?_
 refine zt hl ?_
 have fin:∀ x,x=zjb m->K (dmT (zcq [.d (.slice (bcs x)),.d (.bool true)])) σ:=by rintro _ rfl;exact hK
 exact fin _ (by simp [zjb,hk,hch,zaV])
theorem c_kBody8 {σ:List zd} {m:zcS} (hk:m.kind=8) (hc:∀ e∈zfN m,e=0) {K:KT} (hK:K (.tup [.d (.slice (bcs (zjb m))),.d (.bool true)]) σ) :
  zj Tryz.prog zlU [zeR m] σ K:=by
 refine zdZ zzf fun hl => ?_
 have hcl:(zR m.changes).length=m.changes.length:=List.length_map ..
 have hel:(zu m.entries).length=m.entries.length:=List.length_map ..
 obtain ⟨h1,h2,h3,h4,h5,h6⟩:=newv_ok hc
 have n0:=zm (n:=m.kind.toNat) (by omega)
 have n1:=zm (n:=m.src.toNat) (by omega)
 have n2:=zm (n:=m.view.toNat) (by omega)
 have n3:=zm (n:=m.changes.length) (by omega)
 have n4:=zm (n:=m.entries.length) (by omega)
 simp only [zue,iN,bT,bF,eN]
 refine zQ ?_
 refine zqt (b := []) (l := [m.kind]) (by simp) (by simp) (by simp;omega) ?_
 refine zA (zi (kk8 hk) hcl) ?_
 refine zqt (l := [m.src,m.view,(m.changes.length:Int)]) (b := []++zaV [m.kind]) (by simp [zaV];omega) (by simp) (by simp;omega) ?_
 obtain ⟨Q,hQ⟩:∃ Q,[]++zaV [m.kind]++zaV [m.src,m.view,(m.changes.length:Int)]=Q:=⟨_,rfl⟩
 have hQl:Q.length<=1000:=by rw [← hQ];simp [zaV];omega
 rw [hQ]
 refine zA hcl ?_
 refine zl m.changes.length (fun k vs s=>vs = [.d (.slice (bcs (Q++((m.changes.take k).map zfW).flatten))),.d (.int .i64 k)]/\s = σ++[zqk m]) ⟨by simp,rfl⟩ ?_
 rintro k vs s hk0 ⟨rfl,rfl⟩
 have hlenC:(((m.changes.take k).map zfW).flatten).length<=13*36020:=by
  have:=zdK (f:=zfW) (n := 36020) (l:=m.changes.take k) fun s hm=>zro (h4 s (List.mem_of_mem_take hm))
  have hlk:(m.changes.take k).length<=13:=by rw [List.length_take];omega
  have:(m.changes.take k).length*36020<=13*36020:=Nat.mul_le_mul_right _ hlk
  omega
 by_cases hlt:k<m.changes.length
 ·have hd:decide ((k:Int)<(m.changes.length:Int))=true:=by simp;omega
  have hx:m.changes[k]? = some m.changes[k]:=by simp [hlt]
  have hpx:=h4 _ (List.getElem_mem hlt)
  have hgx:=zF (f:=zat) hx
  obtain ⟨p,hp⟩:∃ p,m.changes[k]=p:=⟨_,rfl⟩
  rw [hp] at hx hgx hpx
  refine zfG (zi hd (zi hgx hcl)) ?_
  refine c_kPutChange (c:=p) (by simp only [List.length_append];omega) hpx ?_
  refine zA (wkc k (by omega)) ?_
  exact zan.next hlt ⟨by rw [zeo hx];try simp,rfl⟩
 have hd:decide ((k:Int)<(m.changes.length:Int))=false:=by simp;omega
 rw [show m.changes.take k=m.changes from List.take_of_length_le (by omega)] at hlenC ⊢
 refine zA (zi hd (zi hcl hel)) ?_
 refine zqt (l := [(m.entries.length:Int)]) (by simp only [List.length_append];omega) (by simp) (by simp;omega) ?_
 obtain ⟨R,hR⟩:∃ R,Q++(m.changes.map zfW).flatten++zaV [(m.entries.length:Int)]=R:=⟨_,rfl⟩
 have hRl:R.length<=1000000:=by rw [← hR];simp only [zaV,List.map_cons,List.map_nil,List.flatten_cons,List.flatten_nil,List.append_nil,List.length_append,Int.toNat_natCast];omega
 rw [hR]
 refine zA hel ?_
 refine zl m.entries.length (fun k vs s=>vs = [.d (.slice (bcs (R++((m.entries.take k).map znn).flatten))),.d (.int .i64 k)]/\∃ T,s = σ++zqk m::T) ⟨by simp,[],rfl⟩ ?_
 rintro k vs s hk1 ⟨rfl,T,rfl⟩
 by_cases hlt:k<m.entries.length
 ·have hd:decide ((k:Int)<(m.entries.length:Int))=true:=by simp;omega
  have hx:m.entries[k]? = some m.entries[k]:=by simp [hlt]
  have hpx:=h6 _ (List.getElem_mem hlt)
  have hgx:=zF (f:=zbh) hx
  obtain ⟨p,hp⟩:∃ p,m.entries[k]=p:=⟨_,rfl⟩
  rw [hp] at hx hgx hpx
  have hlen:(((m.entries.take k).map znn).flatten).length<=(m.entries.take k).length*4040:=zdK fun s hm=>ztE (h6 s (List.mem_of_mem_take hm))
  have hlk:(m.entries.take k).length=k:=by rw [List.length_take];omega
  obtain ⟨X,hX⟩:∃ X,R++((m.entries.take k).map znn).flatten=X:=⟨_,rfl⟩
  have hXl:X.length<=2000000:=by rw [← hX,List.length_append];omega
  rw [hX]
  obtain ⟨p1,p2,p3,p4⟩:=zAq hpx
  have m1:=zm (n:=p.view.toNat) (by omega)
  have m2:=zm (n:=p.seq.toNat) (by omega)
  have m3:=(zff p3).2
  have hsb:zbF p.key p.dig=zfL p.key p.dig:=by simp [zbF,p4]
  have hbb:zbw p.batch=zbN p.batch:=by simp [zbw,p3]
  have hbx0:(σ++zqk m::T)[σ.length]? = some (zqk m):=by rw [zD];rfl
  have hbx:∀ τ,(σ++zqk m::T ++ τ)[σ.length]? = some (zqk m):=fun τ=>zn hbx0
  have fin:∀ τ, ∃ T', σ++zqk m::T ++ τ = σ++zqk m::T':=fun τ=>⟨T ++ τ,by simp⟩
  obtain ⟨S,hS⟩:∃ S, σ++zqk m::T=S:=⟨_,rfl⟩
  rw [hS] at hbx hbx0 fin ⊢
  refine zfG (zi hd (zi hgx (zi hel (zi hbx hbx0)))) ?_
  refine zqt (l := [p.view,p.seq]) (by omega) (by simp) (by simp;omega) ?_
  refine zQ ?_
  refine zkD (by simp [zaV];omega) (fun x hx=>Nat.le_trans ((zff p3).1 x hx) (by omega)) (by have:=(zjP p3).1;omega) ?_
  rw [hbb]
  refine zQ ?_
  refine ziq (by simp [zaV];omega) ?_
  rw [hsb]
  refine zA (wkc k (by omega)) ?_
  refine zan.next hlt ⟨?_,fin _⟩
  rw [zeo hx, ← hX]
  simp [znn,zaV]
 ·have hd:decide ((k:Int)<(m.entries.length:Int))=false:=by simp;omega
  have hbx0:(σ++zqk m::T)[σ.length]? = some (zqk m):=by rw [zD];rfl
  rw [show m.entries.take k=m.entries from List.take_of_length_le (by omega)]
  obtain ⟨S,hS⟩:∃ S,zqk m::T=S:=⟨_,rfl⟩
  rw [hS] at hbx0 ⊢
  refine zA (zi hd (zi hel hbx0)) ?_
  refine zt hl ?_
  have fin:∀ x,x=zjb m->K (dmT (zcq [.d (.slice (bcs x)),.d (.bool true)])) σ:=by rintro _ rfl;exact hK
  exact fin _ (by rw [← hR, ← hQ];simp [zjb,hk,newvB,zaV])
end Go.Proofs.YtpgahkdjkanblaaGreat
