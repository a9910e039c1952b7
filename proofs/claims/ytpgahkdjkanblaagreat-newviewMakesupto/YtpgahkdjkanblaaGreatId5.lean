/- A ledger's clone, whatever was signed. -/
import Derived.Test.YtpgahkdjkanblaaGreatId2
import Derived.Test.YtpgahkdjkanblaaGreatRq3
import Derived.Test.YtpgahkdjkanblaaGreatSpTab
set_option linter.all false
set_option maxRecDepth 100000
namespace Go.Proofs.YtpgahkdjkanblaaGreat
open Go.AW
theorem zsG {σ:List zh} {id m t:Nat} {g:List zK} (hG:zev σ id m t g) (hg:g.length<=1073741824) {K:KT}
  (hK:∀ g':List zK,K (.box (σ.length+1) 0) (σ++ledO σ.length g')):zo Tryz.prog zcK [.box id 0] σ K:=by
 refine zce zjD.is rfl (fun s=>List.range' σ.length 3) fun hl _=>zjD.goes ?_
 have hbx:∀ τ,(σ ++ τ)[id]? = _:=fun τ=>zx hG.box
 have hlen:(zvN g).length=g.length:=List.length_map ..
 simp only [zjL,iN,bT,bF,eN]
 refine zxB ?_
 refine zAo hG ?_
 refine zjv hbx ?_
 refine zrG ?_
 refine zjv (zct hbx hlen) ?_
 refine zm g.length (fun k vs s=>vs = [.d (.int .i64 k)]/\∃ g' τ,g'.length<=k/\s = σ++(ledO σ.length g' ++ τ)) ⟨rfl,[],[],by simp,by simp [zvN,ledM]⟩ ?_
 rintro k vs s hk ⟨rfl,g', τ,hg',rfl⟩
 by_cases hlt:k<g.length
 ·have hd:decide ((k:Int)<(g.length:Int))=true:=by simp;omega
  have hx:g[k]? = some g[k]:=by simp [hlt]
  obtain ⟨x,hxe⟩:∃ x,g[k]=x:=⟨_,rfl⟩
  rw [hxe] at hx
  have hgx:(zvN g)[k]? = some [D.int .i64 x.key,D.int .i64 x.dig]:=by rw [zvN];exact zR hx
  refine zjv (zct hd (zct hgx hlen)) ?_
  have hL:∀ τ',zev (σ++(ledO σ.length g' ++ τ')) (σ.length+1) σ.length (σ.length+2) g':=fun τ'=>ledAt_new σ g' τ'
  refine c_gSign (hL (τ++[.box [.d (.int .i64 x.key),.d (.int .i64 x.dig)]])) (by omega) ?_
  have hP:=putLed_new σ g' (zjg g' x.key x.dig) (τ++[.box [.d (.int .i64 x.key),.d (.int .i64 x.dig)]])
  rw [hP]
  have hw:IntKind.i64.wrap ((k:Int)+1)=((k+1:Nat):Int):=by rw [zas (by omega) (by omega)];rfl
  refine zjv hw ?_
  refine zaz.next hlt ⟨rfl,zjg g' x.key x.dig, τ++[.box [.d (.int .i64 x.key),.d (.int .i64 x.dig)]],?_,by simp [ledO]⟩
  unfold zjg signL
  split
  ·split
   ·omega
   ·simp;omega
  ·omega
 ·have hd:decide ((k:Int)<(g.length:Int))=false:=by simp;omega
  refine zjv (zct hlen hd) ?_
  exact zlp (σ' := σ) (os:=ledO σ.length g') (τ := τ) rfl rfl hl (low_ledO _ _) (.box _ _ (by simp)) (hK g')
end Go.Proofs.YtpgahkdjkanblaaGreat

/- Contracts: votes, on both sides. -/
set_option maxRecDepth 100000
namespace Go.Proofs.YtpgahkdjkanblaaGreat
open Go.AW
theorem c_auMay {σ:List zh} {a b c d:Int} {K:KT} (hK:K (.d (.bool (zvi a b c d))) σ) :
  zo Tryz.prog zqm [.d (.int .i64 a),.d (.int .i64 b),.d (.int .i64 c),.d (.int .i64 d)] σ K:=by
 refine zd zyL.is rfl fun hl _=>zyL.goes ?_
 rw [mayV_all] at hK
 simp only [zzx,iN,bT,bF,eN]
 refine zab ?_
 have hg:∀ (k:Nat) x,[a,b,c,d][k]? = some x → [[D.int .i64 a],[D.int .i64 b],[D.int .i64 c],[D.int .i64 d]][k]? = some [D.int .i64 x]:=fun k x h=>by
  have:=zR (f:=fun t => [D.int .i64 t]) h
  simpa using this
 have hl4 : [a,b,c,d].length=4:=rfl
 obtain ⟨l,hlq⟩:∃ l,[a,b,c,d]=l:=⟨_,rfl⟩
 rw [hlq] at hK hl4 hg
 refine zm 4 (fun k vs s=>vs = [.d (.int .i64 k)]/\(∃ T,s = σ++T)/\(l.take k).all zla=true) ⟨rfl,⟨[],(List.append_nil σ).symm⟩,by simp⟩ ?_
 rintro k vs s hk ⟨rfl,⟨T,rfl⟩,hok⟩
 by_cases hlt:k<4
 ·have hd:decide ((k:Int)<((4:Nat):Int))=true:=by simp;omega
  have hx:l[k]? = some (l[k]'(by omega)):=List.getElem?_eq_getElem _
  have hgx:=hg k _ hx
  obtain ⟨x,hxe⟩:∃ x,(l[k]'(by omega))=x:=⟨_,rfl⟩
  rw [hxe] at hx hgx
  have bad:zla x=false->l.all zla=false:=fun h=>by
   rw [Bool.eq_false_iff]
   intro hall
   have:=List.all_eq_true.1 hall x (List.mem_of_getElem? hx)
   rw [h] at this;cases this
  have hx2:zla x=(decide (0<=x) && decide (x<=9007199254740992)):=by simp [zla]
  cases h1:decide (x<0)
  ·cases h2:decide (x > 9007199254740992)
   ·refine zB (ze hd (ze hgx (ze h1 (ze h2 (wki k (by omega)))))) ?_
    refine zaz.next hlt ⟨rfl,⟨_,rfl⟩,?_⟩
    rw [List.take_add_one,hx]
    simp only [List.all_append,hok,Option.toList_some,List.all_cons,List.all_nil,Bool.true_and,Bool.and_true]
    simp at h1 h2
    simp [zla];omega
   ·rw [bad (by simp at h2;simp [zla];omega)] at hK
    refine zB (ze hd (ze hgx (ze h1 h2))) ?_
    refine zw hl ?_
    exact hK
  ·rw [bad (by simp at h1;simp [zla];omega)] at hK
   refine zB (ze hd (ze hgx h1)) ?_
   refine zw hl ?_
   exact hK
 ·have hd:decide ((k:Int)<((4:Nat):Int))=false:=by simp;omega
  rw [List.take_of_length_le (by omega)] at hok
  rw [hok] at hK
  refine zB hd ?_
  refine zw hl ?_
  exact hK
theorem c_auPut {σ:List zh} {b:List UInt8} {l:List Int} (hb:b.length<=1000000) (hl0:l.length<=1000) (hi:∀ x ∈ l, 0<=x/\x<=9007199254740992) {K:KT} (hK:K (.d (.slice (bcs (b++zaV l)))) σ) :
  zo Tryz.prog zql [.d (.slice (bcs b)),.d (.slice (zpd l))] σ K:=by
 refine zd zyJ.is rfl fun hl _=>zyJ.goes ?_
 simp only [zzv,iN,bT,bF,eN]
 refine zab ?_
 refine zm l.length (fun k vs s=>(∃ x,vs = [x,.d (.int .i64 k)]/\(x = .d (.slice (bcs (b++zaV (l.take k)))) ∨ ∃ t,x = .own t (bcs (b++zaV (l.take k)))))/\∃ T,s = σ++T) ⟨⟨_,rfl,.inl (by simp [zaV])⟩,[],by simp⟩ ?_
 rintro k vs s hk ⟨⟨y,rfl,hy⟩,T,rfl⟩
 have hdy:dm y = .d (.slice (bcs (b++zaV (l.take k)))):=by
  rcases hy with rfl | ⟨t,rfl⟩ <;> rfl
 by_cases hlt:k<l.length
 ·have hd:decide ((k:Int)<(l.length:Int))=true:=by simp;omega
  have hx:l[k]? = some l[k]:=by simp [hlt]
  have hxi:=hi _ (List.getElem_mem hlt)
  have hgx:=zR (f:=fun t => [D.int .i64 t]) hx
  obtain ⟨x,hxe⟩:∃ x,l[k]=x:=⟨_,rfl⟩
  rw [hxe] at hx hgx hxi
  have hm1:(if x > 0 then x else 0)=x:=by split <;> omega
  have hm2:(if 0<x then x else 0)=x:=by split <;> omega
  have hw:IntKind.u64.wrap x=((x.toNat:Nat):Int):=by
   rw [show x=((x.toNat:Nat):Int) by omega,zdq (by omega)];rfl
  have hln:=zrY (l:=l.take k) (fun y hy=>by have:=hi y (List.mem_of_mem_take hy);omega)
  have hlk:(l.take k).length=k:=by rw [List.length_take];omega
  have hw2:IntKind.i64.wrap ((k:Int)+1)=((k+1:Nat):Int):=by rw [zas (by omega) (by omega)];rfl
  have hbl:(b++zaV (l.take k)).length<=1073741824:=by rw [List.length_append];omega
  rcases hy with rfl | ⟨t,rfl⟩
  ·refine zB (ze hd (ze hgx (ze hm1 (ze hm2 hw)))) ?_
   refine zfr (by omega) hbl ?_
   refine zB hw2 ?_
   exact zaz.next hlt ⟨⟨_,rfl,.inr ⟨_,by rw [zxY hx]⟩⟩,_,rfl⟩
  ·refine zB (ze hd (ze hgx (ze hm1 (ze hm2 hw)))) ?_
   refine zfr (by omega) hbl ?_
   refine zB hw2 ?_
   exact zaz.next hlt ⟨⟨_,rfl,.inr ⟨_,by rw [zxY hx]⟩⟩,_,rfl⟩
 ·have hd:decide ((k:Int)<(l.length:Int))=false:=by simp;omega
  rw [List.take_of_length_le (by omega)] at hy
  rcases hy with rfl | ⟨t,rfl⟩
  ·refine zB hd ?_
   refine zw hl ?_
   exact hK
  ·refine zB hd ?_
   refine zw hl ?_
   exact hK
end Go.Proofs.YtpgahkdjkanblaaGreat

/- Contracts: votes, the program's. -/
set_option maxRecDepth 100000
namespace Go.Proofs.YtpgahkdjkanblaaGreat
open Go.AW
theorem may_all {a b c d:Int} (h:zvi a b c d=true):∀ x ∈ [a,b,c,d], 0<=x/\x<=9007199254740992:=by
 rw [mayV_all,List.all_eq_true] at h
 exact fun x hx=>zvF.1 (h x hx)
theorem zsH {σ:List zh} {a b c d:Int} (h:zvi a b c d=true) {K:KT} (hK:K (.d (.slice (bcs (zkf a b c d)))) σ) :
  zo Tryz.prog zdt [.d (.int .i64 a),.d (.int .i64 b),.d (.int .i64 c),.d (.int .i64 d)] σ K:=by
 refine zd znQ.is rfl fun hl _=>znQ.goes ?_
 simp only [zom,iN,bT,bF,eN]
 refine zab ?_
 refine c_auPut (b := [4]) (l := [a,b,c,d]) (by simp) (by simp) (may_all h) ?_
 refine zab ?_
 refine zw hl ?_
 exact hK
theorem zsI {σ:List zh} {id m t id2 m2 t2:Nat} {l:List (List UInt8)} {g:List zK} (hT:zeS σ id m t l) (hG:zev σ id2 m2 t2 g) (hL:znT l) (hg:g.length<=1073741824) {K:KT}
  (hK:K (.d (.bool true)) σ):zo Tryz.prog zgK [.box id 0,.box id2 0] σ K:=by
 refine zd zwx.is rfl fun hl _=>zwx.goes ?_
 simp only [zxp,iN,bT,bF,eN]
 refine zab ?_
 refine zsE hT hL.nd hL.len hL.each ?_
 refine zab ?_
 refine zsG (hG.app _) hg fun g' => ?_
 refine zab ?_
 refine zw hl ?_
 exact hK
theorem zyV {σ:List zh} {id m t id2 m2 t2:Nat} {L:List (List UInt8)} {G:List zK} {s:zK} {key:Int} {b:List UInt8} (hT:zeS σ id m t L) (hG:zev σ id2 m2 t2 G) {K:KT}
  (hK:K (.d (.bool (zgY L G s key b))) σ):zo Tryz.prog zjS [.box id 0,.box id2 0,.agg [.d (.int .i64 s.key),.d (.int .i64 s.dig)],.d (.int .i64 key),.d (.slice (bcs b))] σ K:=by
 refine zd zsC.is rfl fun hl _=>zsC.goes ?_
 have hT1:=fun τ=>hT.app τ
 have hG1:=fun τ=>hG.app τ
 simp only [zta,iN,bT,bF,eN]
 refine zab ?_
 refine zwE (hT1 _) ?_
 have fin:∀ z,zgY L G s key b=z->K (.d (.bool z)) σ:=fun z h=>h ▸ hK
 clear hK
 cases hlk:zfI L b with
 | none =>
  refine gq72 ?_
  refine zw hl ?_
  exact fin _ (by simp [zgY,hlk])
 | some i =>
  simp only [zvG]
  cases h1:(s.key == key)
  ·refine gq76 h1 ?_
   refine zw hl ?_
   exact fin _ (by simp at h1;simp [zgY,hlk,h1])
  ·cases h2:(s.dig == ((i+1:Nat):Int))
   ·refine gq76 (ze h1 h2) ?_
    refine zw hl ?_
    exact fin _ (by simp at h1 h2;simp [zgY,hlk,h1];omega)
   ·refine gq76 (ze h1 h2) ?_
    refine c_gSigned (s:=s) (hG1 _) ?_
    refine zab ?_
    refine zw hl ?_
    exact fin _ (by simp at h1 h2;simp [zgY,hlk,h1,h2])
theorem zns {σ:List zh} {id m t id2 m2 t2:Nat} {L:List (List UInt8)} {G:List zK} {s:zK} {key a b c d:Int} (hT:zeS σ id m t L) (hG:zev σ id2 m2 t2 G) (hL:znT L) (hg:G.length<=1073741824) {K:KT}
  (hK:K (.d (.bool (zgP L G s key a b c d))) σ) :
  zo Tryz.prog zfy [.box id 0,.box id2 0,.agg [.d (.int .i64 s.key),.d (.int .i64 s.dig)],.d (.int .i64 key),.d (.int .i64 a),.d (.int .i64 b),.d (.int .i64 c),.d (.int .i64 d)] σ K:=by
 refine zd znR.is rfl fun hl _=>znR.goes ?_
 simp only [zon,iN,bT,bF,eN]
 refine zab ?_
 refine zsI (hT.app _) (hG.app _) hL hg ?_
 refine zab ?_
 refine c_auMay ?_
 cases hm:zvi a b c d
 ·rw [zgP,hm,Bool.false_and] at hK
  refine zab ?_
  refine zw hl ?_
  exact hK
 ·rw [zgP,hm,Bool.true_and] at hK
  refine zab ?_
  refine zsH hm ?_
  refine zab ?_
  refine zyV (s:=s) (hT.app _) (hG.app _) ?_
  refine zab ?_
  refine zw hl ?_
  exact hK
end Go.Proofs.YtpgahkdjkanblaaGreat
