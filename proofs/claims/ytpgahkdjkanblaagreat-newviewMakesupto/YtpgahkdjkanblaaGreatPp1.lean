/- Certificates: whether they are valid. No program in sight. -/
import Derived.Test.YtpgahkdjkanblaaGreatSpTab
import Derived.Test.YtpgahkdjkanblaaGreatRq3
import Derived.Test.YtpgahkdjkanblaaGreatSpOp
import Derived.Test.YtpgahkdjkanblaaGreatId5
import Derived.Test.YtpgahkdjkanblaaGreatQu1
set_option linter.all false
namespace Go.Proofs.YtpgahkdjkanblaaGreat
open Go.AW
def zcf (f v:Int):Int:=if (f<1 ∨ f > 4) ∨ v<0 ∨ v > 9007199254740992 then -1 else v.tmod (3 * f+1)
def zxK (L:List (List UInt8)) (G:List zK) (f lead view seq dig:Int):Int->List zK->Bool
 | _,[]=>true
 | last,s :: r => !(decide (s.key<=last)) && (!(decide (s.key ≥ zaW 3 f)) && (!(s.key == lead) && (zgP L G s s.key 3 view seq dig && zxK L G f lead view seq dig s.key r)))
def zjs (f:Int) (p:zcb):Bool:=decide (zbN f=0) && (!(decide (p.view<0)) && (!(decide (p.view > 9007199254740992)) && (!(decide (p.seq<1)) && !(decide (p.seq > 9007199254740992)))))
def prepH (L:List (List UInt8)) (G:List zK) (f:Int) (p:zcb):Bool :=
 zgP L G ⟨p.fkey,p.fdig⟩ (zcf f p.view) 2 p.view p.seq p.dig && (((p.signs.length:Int) == 2 * f) && zxK L G f (zcf f p.view) p.view p.seq p.dig (-1) p.signs)
def prepG (L:List (List UInt8)) (G:List zK) (f:Int) (p:zcb):Bool:=match zfI L (zcy p.batch) with
 | some i=>(((i+1:Nat):Int) == p.dig) && prepH L G f p
 | none=>false
def ziN (L:List (List UInt8)) (G:List zK) (f:Int) (p:zcb):Bool:=zjs f p && (zie L G p.batch && prepG L G f p)
theorem zuf {L:List (List UInt8)} {G:List zK} {b:List zJ} (h:zie L G b=true):zD b=0:=by
 simp [zie] at h;exact h.1
theorem prim_tmod {f v:Int} (h:¬ (f<1 ∨ f > 4)) (h0:¬ v<0) (h1:¬ v > 9007199254740992):0<=v.tmod (3 * f+1)/\v.tmod (3 * f+1)<=12:=by
 have:=Int.tmod_lt_of_pos v (b := 3 * f+1) (by omega)
 have h2:=Int.tmod_nonneg (3 * f+1) (show 0<=v by omega)
 omega
abbrev prepA (p:zcb):AV := .agg [.d (.int .i64 p.view),.d (.int .i64 p.seq),.d (.int .i64 p.dig),.d (.int .i64 p.fkey),.d (.int .i64 p.fdig),.d (.slice (zap p.signs)),.d (.slice (zbj p.batch))]
theorem zxJ {L:List (List UInt8)} {G:List zK} {f lead view seq dig last:Int} {l:List zK} {k:Nat} {s:zK} (h:l[k]? = some s) :
  zxK L G f lead view seq dig last (l.drop k)=(!(decide (s.key<=last)) && (!(decide (s.key ≥ zaW 3 f)) && (!(s.key == lead) && (zgP L G s s.key 3 view seq dig && zxK L G f lead view seq dig s.key (l.drop (k+1)))))):=by
 have hk:k<l.length:=(List.getElem?_eq_some_iff.1 h).1
 rw [List.drop_eq_getElem_cons hk,(List.getElem?_eq_some_iff.1 h).2]
 rfl
end Go.Proofs.YtpgahkdjkanblaaGreat

/- Contracts: whether a certificate is valid, the program's. -/
set_option maxRecDepth 100000
namespace Go.Proofs.YtpgahkdjkanblaaGreat
open Go.AW
theorem c_quView {σ:List zh} {f v:Int} {K:KT} (hK:K (.d (.bool (!decide ((f<1 ∨ f > 4) ∨ v<0 ∨ v > 9007199254740992)))) σ):zo Tryz.prog zmZ [.d (.int .i64 f),.d (.int .i64 v)] σ K:=by
 refine zd zsy.is rfl fun hl _=>zsy.goes ?_
 simp only [zsW,iN,bT,bF,eN]
 refine zab ?_
 refine zmA ?_
 by_cases h:f<1 ∨ f > 4
 ·rw [decide_eq_true (.inl h)] at hK
  rw [zbN,if_pos h]
  refine zB (show ((120:Int) == 0)=false from rfl) ?_
  refine zw hl ?_
  exact hK
 ·rw [zbN,if_neg h]
  cases h1:decide (v ≥ 0)
  ·rw [decide_eq_true (.inr (.inl (by simpa using h1)))] at hK
   refine zB (zn (show ((0:Int) == 0)=true from rfl) h1) ?_
   refine zw hl ?_
   exact hK
  ·have h0:¬ v<0:=by simp at h1;omega
   refine zB (zn (show ((0:Int) == 0)=true from rfl) h1) ?_
   refine zw hl ?_
   rw [show decide (v<=9007199254740992) = !decide ((f<1 ∨ f > 4) ∨ v<0 ∨ v > 9007199254740992) by
    by_cases h2:v<=9007199254740992
    ·rw [decide_eq_true h2,decide_eq_false (by omega)];rfl
    ·rw [decide_eq_false h2,decide_eq_true (by omega)];rfl]
   exact hK
theorem zwJ {σ:List zh} {f v:Int} {K:KT} (hK:K (.d (.int .i64 (zcf f v))) σ):zo Tryz.prog zgB [.d (.int .i64 f),.d (.int .i64 v)] σ K:=by
 refine zd znH.is rfl fun hl _=>znH.goes ?_
 simp only [zod,iN,bT,bF,eN]
 refine zab ?_
 refine c_quView ?_
 by_cases h:(f<1 ∨ f > 4) ∨ v<0 ∨ v > 9007199254740992
 ·rw [zcf,if_pos h] at hK
  rw [decide_eq_true h]
  refine zab ?_
  refine zw hl ?_
  exact hK
 ·rw [zcf,if_neg h] at hK
  rw [decide_eq_false h]
  have hf:¬ (f<1 ∨ f > 4):=fun e=>h (.inl e)
  refine zab ?_
  refine zkL ?_
  rw [zaW,if_neg hf]
  have:=prim_tmod hf (fun e=>h (.inr (.inl e))) (fun e=>h (.inr (.inr e)))
  have hw:IntKind.i64.wrap (v.tmod (3 * f+1))=v.tmod (3 * f+1):=zas (by omega) (by omega)
  have hz:(3 * f+1 == 0)=false:=by simp;omega
  refine zB (zn hw hz) ?_
  refine zw hl ?_
  exact hK
end Go.Proofs.YtpgahkdjkanblaaGreat

/- Contracts: whether a certificate is valid, the program's. -/
set_option maxRecDepth 100000
namespace Go.Proofs.YtpgahkdjkanblaaGreat
open Go.AW
structure smallP (p:zcb):Prop where
 ops:∀ x ∈ p.batch,zlh x.op<=20971520
 batch:p.batch.length<=1073741824
 signs:p.signs.length<=1073741824
theorem c_prValid {σ:List zh} {id m t id2 m2 t2:Nat} {L:List (List UInt8)} {G:List zK} {f:Int} {p:zcb} (hT:zeS σ id m t L) (hG:zev σ id2 m2 t2 G) (hL:znT L) (hg:G.length<=1073741824) (hp:smallP p)
  {K:KT} (hK:K (.d (.bool (ziN L G f p))) σ):zo Tryz.prog zjn [.box id 0,.box id2 0,.d (.int .i64 f),prepA p] σ K:=by
 refine zd znJ.is rfl fun hl _=>znJ.goes ?_
 have fin:∀ z,ziN L G f p=z->K (.d (.bool z)) σ:=fun z h=>h ▸ hK
 clear hK
 simp only [zof,iN,bT,bF,eN,prepA]
 refine zab ?_
 refine zsE (hT.app _) hL.nd hL.len hL.each ?_
 refine zab ?_
 refine zsG (hG.app _) hg fun g' => ?_
 refine zab ?_
 refine zmA ?_
 by_cases h0:f<1 ∨ f > 4
 ·rw [zbN,if_pos h0]
  refine zB (show ((120:Int) != 0)=true from rfl) ?_
  refine zw hl ?_
  exact fin _ (by simp [ziN,zjs,zbN,h0])
 have hc0:zbN f=0:=if_neg h0
 rw [hc0]
 cases h1:decide (p.view<0)
 rotate_left
 ·refine zB (zn (show ((0:Int) != 0)=false from rfl) h1) ?_
  refine zw hl ?_
  exact fin _ (by simp [ziN,zjs,h1])
 cases h2:decide (p.view > 9007199254740992)
 rotate_left
 ·refine zB (zn (show ((0:Int) != 0)=false from rfl) (zn h1 h2)) ?_
  refine zw hl ?_
  exact fin _ (by simp [ziN,zjs,h2])
 cases h3:decide (p.seq<1)
 rotate_left
 ·refine zB (zn (show ((0:Int) != 0)=false from rfl) (zn h1 (zn h2 h3))) ?_
  refine zw hl ?_
  exact fin _ (by simp [ziN,zjs,h3])
 cases h4:decide (p.seq > 9007199254740992)
 rotate_left
 ·refine zB (zn (show ((0:Int) != 0)=false from rfl) (zn h1 (zn h2 (zn h3 h4)))) ?_
  refine zw hl ?_
  exact fin _ (by simp [ziN,zjs,h4])
 have hok:zjs f p=true:=by simp [zjs,hc0,h1,h2,h3,h4]
 have hpf:ziN L G f p=(zie L G p.batch && prepG L G f p):=by rw [ziN,hok,Bool.true_and]
 refine zB (zn (show ((0:Int) != 0)=false from rfl) (zn h1 (zn h2 (zn h3 h4)))) ?_
 refine zxE (b:=p.batch) (hT.app _) (hG.app _) hp.ops hp.batch ?_
 cases h5:zie L G p.batch
 ·refine zab ?_
  refine zw hl ?_
  exact fin _ (by rw [hpf,h5];rfl)
 rw [h5,Bool.true_and] at hpf
 have hcb:=zuf h5
 refine zab ?_
 refine zyY (b := []) (by simp) hp.ops hp.batch ?_
 rw [List.nil_append,show zbY p.batch=zcy p.batch from if_pos hcb]
 refine zab ?_
 refine zwE (hT.app _) ?_
 refine zab ?_
 refine zwJ ?_
 cases h6:zfI L (zcy p.batch) with
 | none =>
  refine gq72 ?_
  refine zw hl ?_
  exact fin _ (by simp only [hpf,prepG,h6])
 | some i =>
  simp only [prepG,h6] at hpf
  simp only [zvG]
  cases h7:(((i+1:Nat):Int) == p.dig)
  ·have h7':(((i+1:Nat):Int) != p.dig)=true:=by simpa using h7
   refine gq77 h7' ?_
   refine zw hl ?_
   exact fin _ (by rw [hpf,h7];rfl)
  have h7':(((i+1:Nat):Int) != p.dig)=false:=by simpa using h7
  have h7e:((i+1:Nat):Int)=p.dig:=by simpa using h7
  simp only [h7,Bool.true_and] at hpf
  rw [h7e] at h7' ⊢
  refine gq77 h7' ?_
  refine zns (s:=⟨p.fkey,p.fdig⟩) (hT.app _) (hG.app _) hL hg ?_
  cases h8:zgP L G ⟨p.fkey,p.fdig⟩ (zcf f p.view) 2 p.view p.seq p.dig
  ·refine zab ?_
   refine zw hl ?_
   exact fin _ (by rw [hpf,prepH,h8];rfl)
  rw [prepH,h8,Bool.true_and] at hpf
  have hw2:IntKind.i64.wrap (2 * f)=2 * f:=zas (by omega) (by omega)
  have hlen:(zap p.signs).length=p.signs.length:=List.length_map ..
  cases h9:((p.signs.length:Int) == 2 * f)
  ·have h9':((p.signs.length:Int) != 2 * f)=true:=by simpa using h9
   refine zB (zn hw2 (zn hlen h9')) ?_
   refine zw hl ?_
   exact fin _ (by rw [hpf,h9];rfl)
  have h9':((p.signs.length:Int) != 2 * f)=false:=by simpa using h9
  rw [h9,Bool.true_and] at hpf
  refine zB (zn hw2 (zn hlen h9')) ?_
  refine zm p.signs.length (fun k vs s => ∃ last:Int,vs = [.d (.int .i64 last),.d (.int .i64 k)]/\(∃ T,s = σ++(.box [.d (.int .i64 p.view),.d (.int .i64 p.seq),.d (.int .i64 p.dig),.d (.int .i64 p.fkey),.d (.int .i64 p.fdig),.d (.slice (zap p.signs)),.d (.slice (zbj p.batch))] :: T)) ∧
   ziN L G f p=zxK L G f (zcf f p.view) p.view p.seq p.dig last (p.signs.drop k)) ⟨-1,rfl,⟨_,rfl⟩,by simpa using hpf⟩ ?_
  rintro k vs s hk ⟨last,rfl,⟨T,rfl⟩,hpf⟩
  by_cases hlt:k<p.signs.length
  ·have hd:decide ((k:Int)<(p.signs.length:Int))=true:=by simp;omega
   have hx:p.signs[k]? = some p.signs[k]:=by simp [hlt]
   have hgx:=zR (f:=zgf) hx
   obtain ⟨x,hxe⟩:∃ x,p.signs[k]=x:=⟨_,rfl⟩
   rw [hxe] at hx hgx
   have hsl:=hp.signs
   rw [zxJ hx] at hpf
   have hw:IntKind.i64.wrap ((k:Int)+1)=((k+1:Nat):Int):=by rw [zas (by omega) (by omega)];rfl
   cases g1:decide (x.key<=last)
   rotate_left
   ·refine zqn (zn hd (zn hgx (zn hlen g1))) ?_
    refine zw hl ?_
    exact fin _ (by rw [hpf,g1];rfl)
   refine zqn (zn hd (zn hgx (zn hlen g1))) ?_
   refine zkL ?_
   cases g2:decide (x.key ≥ zaW 3 f)
   rotate_left
   ·refine zB g2 ?_
    refine zw hl ?_
    exact fin _ (by rw [hpf,g1,g2];rfl)
   cases g3:(x.key == zcf f p.view)
   rotate_left
   ·refine zB (zn g2 g3) ?_
    refine zw hl ?_
    exact fin _ (by rw [hpf,g1,g2,g3];rfl)
   rw [g1,g2,g3] at hpf
   simp only [Bool.not_false,Bool.true_and] at hpf
   refine zB (zn g2 g3) ?_
   refine zns (s:=x) (hT.app _) (hG.app _) hL hg ?_
   cases g4:zgP L G x x.key 3 p.view p.seq p.dig
   ·rw [g4] at hpf
    refine zab ?_
    refine zw hl ?_
    exact fin _ hpf
   ·rw [g4,Bool.true_and] at hpf
    refine zB hw ?_
    exact zaz.next hlt ⟨x.key,rfl,⟨_,rfl⟩,hpf⟩
  ·have hd:decide ((k:Int)<(p.signs.length:Int))=false:=by simp;omega
   rw [List.drop_eq_nil_of_le (by omega)] at hpf
   refine zB (zn hd hlen) ?_
   refine zw hl ?_
   exact fin _ hpf
end Go.Proofs.YtpgahkdjkanblaaGreat
