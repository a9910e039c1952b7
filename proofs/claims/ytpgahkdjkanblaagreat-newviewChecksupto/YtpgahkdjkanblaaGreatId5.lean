/- A ledger's clone, whatever was signed. -/
import Derived.Test.YtpgahkdjkanblaaGreatId3
import Derived.Test.YtpgahkdjkanblaaGreatRq3
import Derived.Test.YtpgahkdjkanblaaGreatSpTab
import Derived.Test.YtpgahkdjkanblaaGreatWr2
set_option linter.all false
set_option maxRecDepth 100000
namespace Go.Proofs.YtpgahkdjkanblaaGreat
open Go.AW
theorem zsw {σ:List zd} {id m t:Nat} {g:List zy} (hG:zdL σ id m t g) (hg:g.length<=1073741824) {K:KT}
  (hK:∀ g':List zy,K (.box (σ.length+1) 0) (σ++ledO σ.length g')):zj Tryz.prog zcC [.box id 0] σ K:=by
 refine zbT zjw.is rfl (fun s=>List.range' σ.length 3) fun hl _=>zjw.goes ?_
 have hbx:∀ τ,(σ ++ τ)[id]? = _:=fun τ=>zn hG.box
 have hlen:(zwg g).length=g.length:=List.length_map ..
 simp only [zjE,iN,bT,bF,eN]
 refine zxV ?_
 refine zAP hG ?_
 refine zjv hbx ?_
 refine zrt ?_
 refine zjv (zcg hbx hlen) ?_
 refine zl g.length (fun k vs s=>vs = [.d (.int .i64 k)]/\∃ g' τ,g'.length<=k/\s = σ++(ledO σ.length g' ++ τ)) ⟨rfl,[],[],by simp,by simp [zwg,ledM]⟩ ?_
 rintro k vs s hk ⟨rfl,g', τ,hg',rfl⟩
 by_cases hlt:k<g.length
 ·have hd:decide ((k:Int)<(g.length:Int))=true:=by simp;omega
  have hx:g[k]? = some g[k]:=by simp [hlt]
  obtain ⟨x,hxe⟩:∃ x,g[k]=x:=⟨_,rfl⟩
  rw [hxe] at hx
  have hgx:(zwg g)[k]? = some [D.int .i64 x.key,D.int .i64 x.dig]:=by rw [zwg];exact zF hx
  refine zjv (zcg hd (zcg hgx hlen)) ?_
  have hL:∀ τ',zdL (σ++(ledO σ.length g' ++ τ')) (σ.length+1) σ.length (σ.length+2) g':=fun τ'=>ledAt_new σ g' τ'
  refine c_gSign (hL (τ++[.box [.d (.int .i64 x.key),.d (.int .i64 x.dig)]])) (by omega) ?_
  have hP:=putLed_new σ g' (zie g' x.key x.dig) (τ++[.box [.d (.int .i64 x.key),.d (.int .i64 x.dig)]])
  rw [hP]
  have hw:IntKind.i64.wrap ((k:Int)+1)=((k+1:Nat):Int):=by rw [zab (by omega) (by omega)];rfl
  refine zjv hw ?_
  refine zan.next hlt ⟨rfl,zie g' x.key x.dig, τ++[.box [.d (.int .i64 x.key),.d (.int .i64 x.dig)]],?_,by simp [ledO]⟩
  unfold zie zzU
  split
  ·split
   ·omega
   ·simp;omega
  ·omega
 ·have hd:decide ((k:Int)<(g.length:Int))=false:=by simp;omega
  refine zjv (zcg hlen hd) ?_
  exact zll (σ' := σ) (os:=ledO σ.length g') (τ := τ) rfl rfl hl (low_ledO _ _) (.box _ _ (by simp)) (hK g')
theorem c_auMay {σ:List zd} {a b c d:Int} {K:KT} (hK:K (.d (.bool (zvs a b c d))) σ) :
  zj Tryz.prog zpK [.d (.int .i64 a),.d (.int .i64 b),.d (.int .i64 c),.d (.int .i64 d)] σ K:=by
 refine zAU e_auth_may fun hl => ?_
 rw [mayV_all] at hK
 simp only [zzP,iN,bT,bF,eN]
 refine zQ ?_
 have hg:∀ (k:Nat) x,[a,b,c,d][k]? = some x → [[D.int .i64 a],[D.int .i64 b],[D.int .i64 c],[D.int .i64 d]][k]? = some [D.int .i64 x]:=fun k x h=>by
  have:=zF (f:=fun t => [D.int .i64 t]) h
  simpa using this
 have hl4 : [a,b,c,d].length=4:=rfl
 obtain ⟨l,hlq⟩:∃ l,[a,b,c,d]=l:=⟨_,rfl⟩
 rw [hlq] at hK hl4 hg
 refine zl 4 (fun k vs s=>vs = [.d (.int .i64 k)]/\(∃ T,s = σ++T)/\(l.take k).all zkX=true) ⟨rfl,⟨[],(List.append_nil σ).symm⟩,by simp⟩ ?_
 rintro k vs s hk ⟨rfl,⟨T,rfl⟩,hok⟩
 by_cases hlt:k<4
 ·have hd:decide ((k:Int)<((4:Nat):Int))=true:=by simp;omega
  have hx:l[k]? = some (l[k]'(by omega)):=List.getElem?_eq_getElem _
  have hgx:=hg k _ hx
  obtain ⟨x,hxe⟩:∃ x,(l[k]'(by omega))=x:=⟨_,rfl⟩
  rw [hxe] at hx hgx
  have bad:zkX x=false->l.all zkX=false:=fun h=>by
   rw [Bool.eq_false_iff]
   intro hall
   have:=List.all_eq_true.1 hall x (List.mem_of_getElem? hx)
   rw [h] at this;cases this
  have hx2:zkX x=(decide (0<=x)&&decide (x<=9007199254740992)):=by simp [zkX]
  cases h1:decide (x<0)
  ·cases h2:decide (x > 9007199254740992)
   ·refine zA (zo hd (zo hgx (zo h1 (zo h2 (wki k (by omega)))))) ?_
    refine zan.next hlt ⟨rfl,⟨_,rfl⟩,?_⟩
    rw [List.take_add_one,hx]
    simp only [List.all_append,hok,Option.toList_some,List.all_cons,List.all_nil,Bool.true_and,Bool.and_true]
    simp at h1 h2
    simp [zkX];omega
   ·rw [bad (by simp at h2;simp [zkX];omega)] at hK
    refine zA (zo hd (zo hgx (zo h1 h2))) ?_
    refine zt hl ?_
    exact hK
  ·rw [bad (by simp at h1;simp [zkX];omega)] at hK
   refine zA (zo hd (zo hgx h1)) ?_
   refine zt hl ?_
   exact hK
 ·have hd:decide ((k:Int)<((4:Nat):Int))=false:=by simp;omega
  rw [List.take_of_length_le (by omega)] at hok
  rw [hok] at hK
  refine zA hd ?_
  refine zt hl ?_
  exact hK
theorem c_auPut {σ:List zd} {b:List UInt8} {l:List Int} (hb:b.length<=1000000) (hl0:l.length<=1000) (hi:∀ x∈l, 0<=x/\x<=9007199254740992) {K:KT} (hK:K (.d (.slice (bcs (b++zaV l)))) σ) :
  zj Tryz.prog zpI [.d (.slice (bcs b)),.d (.slice (ziN l))] σ K:=by
 refine zeE e_auth_put fun hl => ?_
 simp only [zzO,iN,bT,bF,eN]
 refine zQ ?_
 refine zl l.length (fun k vs s=>(∃ x,vs = [x,.d (.int .i64 k)]/\(x = .d (.slice (bcs (b++zaV (l.take k))))∨∃ t,x = .own t (bcs (b++zaV (l.take k)))))/\∃ T,s = σ++T) ⟨⟨_,rfl,.inl (by simp [zaV])⟩,[],by simp⟩ ?_
 rintro k vs s hk ⟨⟨y,rfl,hy⟩,T,rfl⟩
 have hdy:dm y = .d (.slice (bcs (b++zaV (l.take k)))):=by
  rcases hy with rfl|⟨t,rfl⟩<;>rfl
 by_cases hlt:k<l.length
 ·have hd:decide ((k:Int)<(l.length:Int))=true:=by simp;omega
  have hx:l[k]? = some l[k]:=by simp [hlt]
  have hxi:=hi _ (List.getElem_mem hlt)
  have hgx:=zF (f:=fun t => [D.int .i64 t]) hx
  obtain ⟨x,hxe⟩:∃ x,l[k]=x:=⟨_,rfl⟩
  rw [hxe] at hx hgx hxi
  have hm1:(if x > 0 then x else 0)=x:=by split<;>omega
  have hm2:(if 0<x then x else 0)=x:=by split<;>omega
  have hw:IntKind.u64.wrap x=((x.toNat:Nat):Int):=by
   rw [show x=((x.toNat:Nat):Int) by omega,zdq (by omega)];rfl
  have hln:=zrQ (l:=l.take k) (fun y hy=>by have:=hi y (List.mem_of_mem_take hy);omega)
  have hlk:(l.take k).length=k:=by rw [List.length_take];omega
  have hw2:IntKind.i64.wrap ((k:Int)+1)=((k+1:Nat):Int):=by rw [zab (by omega) (by omega)];rfl
  have hbl:(b++zaV (l.take k)).length<=1073741824:=by rw [List.length_append];omega
  rcases hy with rfl|⟨t,rfl⟩
  ·refine zA (zo hd (zo hgx (zo hm1 (zo hm2 hw)))) ?_
   refine zfe (by omega) hbl ?_
   refine zA hw2 ?_
   exact zan.next hlt ⟨⟨_,rfl,.inr ⟨_,by rw [zyI hx]⟩⟩,_,rfl⟩
  ·refine zA (zo hd (zo hgx (zo hm1 (zo hm2 hw)))) ?_
   refine zfe (by omega) hbl ?_
   refine zA hw2 ?_
   exact zan.next hlt ⟨⟨_,rfl,.inr ⟨_,by rw [zyI hx]⟩⟩,_,rfl⟩
 ·have hd:decide ((k:Int)<(l.length:Int))=false:=by simp;omega
  rw [List.take_of_length_le (by omega)] at hy
  rcases hy with rfl|⟨t,rfl⟩
  ·refine zA hd ?_
   refine zt hl ?_
   exact hK
  ·refine zA hd ?_
   refine zt hl ?_
   exact hK
theorem may_all {a b c d:Int} (h:zvs a b c d=true):∀ x∈[a,b,c,d], 0<=x/\x<=9007199254740992:=by
 rw [mayV_all,List.all_eq_true] at h
 exact fun x hx=>zvR.1 (h x hx)
theorem zsx {σ:List zd} {a b c d:Int} (h:zvs a b c d=true) {K:KT} (hK:K (.d (.slice (bcs (zkc a b c d)))) σ) :
  zj Tryz.prog zdt [.d (.int .i64 a),.d (.int .i64 b),.d (.int .i64 c),.d (.int .i64 d)] σ K:=by
 refine zAU zvm fun hl => ?_
 simp only [znP,iN,bT,bF,eN]
 refine zQ ?_
 refine c_auPut (b := [4]) (l := [a,b,c,d]) (by simp) (by simp) (may_all h) ?_
 refine zQ ?_
 refine zt hl ?_
 exact hK
theorem zpR {σ:List zd} {id m t id2 m2 t2:Nat} {l:List (List UInt8)} {g:List zy} (hT:zea σ id m t l) (hG:zdL σ id2 m2 t2 g) (hL:zka l) (hg:g.length<=1073741824) {K:KT}
  (hK:K (.d (.bool true)) σ):zj Tryz.prog zgI [.box id 0,.box id2 0] σ K:=by
 refine zeE e_auth_made fun hl => ?_
 simp only [zxK,iN,bT,bF,eN]
 refine zQ ?_
 refine zsr hT hL.nd hL.len hL.each ?_
 refine zQ ?_
 refine zsw (hG.app _) hg fun g' => ?_
 refine zQ ?_
 refine zt hl ?_
 exact hK
theorem ztU {σ:List zd} {id m t id2 m2 t2:Nat} {L:List (List UInt8)} {G:List zy} {s:zy} {key:Int} {b:List UInt8} (hT:zea σ id m t L) (hG:zdL σ id2 m2 t2 G) {K:KT}
  (hK:K (.d (.bool (zfJ L G s key b))) σ):zj Tryz.prog zjK [.box id 0,.box id2 0,.agg [.d (.int .i64 s.key),.d (.int .i64 s.dig)],.d (.int .i64 key),.d (.slice (bcs b))] σ K:=by
 refine acE5 zAB fun hl => ?_
 have hT1:=fun τ=>hT.app τ
 have hG1:=fun τ=>hG.app τ
 simp only [zsQ,iN,bT,bF,eN]
 refine zQ ?_
 refine ztQ (hT1 _) ?_
 have fin:∀ z,zfJ L G s key b=z->K (.d (.bool z)) σ:=fun z h=>h▸hK
 clear hK
 cases hlk:zev L b with
 | none=>
  refine gq50 ?_
  refine zt hl ?_
  exact fin _ (by simp [zfJ,hlk])
 | some i=>
  simp only [zlS]
  cases h1:(s.key==key)
  ·refine zkZ h1 ?_
   refine zt hl ?_
   exact fin _ (by simp at h1;simp [zfJ,hlk,h1])
  ·cases h2:(s.dig==((i+1:Nat):Int))
   ·refine zkZ (zo h1 h2) ?_
    refine zt hl ?_
    exact fin _ (by simp at h1 h2;simp [zfJ,hlk,h1];omega)
   ·refine zkZ (zo h1 h2) ?_
    refine c_gSigned (s:=s) (hG1 _) ?_
    refine zQ ?_
    refine zt hl ?_
    exact fin _ (by simp at h1 h2;simp [zfJ,hlk,h1,h2])
theorem zjO {σ:List zd} {id m t id2 m2 t2:Nat} {L:List (List UInt8)} {G:List zy} {s:zy} {key a b c d:Int} (hT:zea σ id m t L) (hG:zdL σ id2 m2 t2 G) (hL:zka L) (hg:G.length<=1073741824) {K:KT}
  (hK:K (.d (.bool (zfy L G s key a b c d))) σ) :
  zj Tryz.prog zeh [.box id 0,.box id2 0,.agg [.d (.int .i64 s.key),.d (.int .i64 s.dig)],.d (.int .i64 key),.d (.int .i64 a),.d (.int .i64 b),.d (.int .i64 c),.d (.int .i64 d)] σ K:=by
 refine acE8 zvn fun hl => ?_
 simp only [znQ,iN,bT,bF,eN]
 refine zQ ?_
 refine zpR (hT.app _) (hG.app _) hL hg ?_
 refine zQ ?_
 refine c_auMay ?_
 cases hm:zvs a b c d
 ·rw [zfy,hm,Bool.false_and] at hK
  refine zQ ?_
  refine zt hl ?_
  exact hK
 ·rw [zfy,hm,Bool.true_and] at hK
  refine zQ ?_
  refine zsx hm ?_
  refine zQ ?_
  refine ztU (s:=s) (hT.app _) (hG.app _) ?_
  refine zQ ?_
  refine zt hl ?_
  exact hK
abbrev uns7 (m:zcS) (c:zJ):zcS:={ m with changes := [{ c with key := 0,dig := 1 }] }
theorem some7 {m:zcS} {c:zJ} (hk:m.kind=7) (hc:m.changes = [c]):zbJ m=uns7 m c:=by simp [zbJ,hk,hc]
theorem zyw {m:zcS} {c:zJ} (h:zbn m) (hc:m.changes = [c]):zbn (uns7 m c):=by
 obtain ⟨h1,h2,h3,h4,h5,h6,h7,h8,h9,h10⟩:=h
 obtain ⟨⟨a1,a2,a3⟩,⟨b1,b2,b3⟩⟩:=h5 c (by rw [hc];simp)
 exact ⟨h1,h2,h3,by simp,by intro x hx;simp at hx;subst hx;exact ⟨⟨a1,a2,a3⟩,⟨b1,b2,b3⟩⟩,h6,h7,h8,h9,h10⟩
theorem c_mUnsigned7 {σ:List zd} {m:zcS} {c:zJ} (hm:zbn m) (hk:m.kind=7) (hc:m.changes = [c]) {K:KT}
  (hK:K (.tup [.d (.slice (bcs (if zaT (zbJ m)=0 then zjb (zbJ m) else []))),.d (.int .i64 (zaT (zbJ m)))]) σ):zj Tryz.prog zfz [zeR m] σ K:=by
 refine zdZ zln fun hl => ?_
 have hgx:(zR m.changes)[0]? = some (zat c):=by rw [hc];rfl
 have hgl:(zR m.changes).length=1:=by rw [hc];rfl
 have hs:=zyw hm hc
 rw [some7 hk hc] at hK
 simp only [zhx,iN,bT,bF,eN,zl4]
 refine zfG (zo (kk7 hk) (zo hgx hgl)) ?_
 refine c_mSome ?_
 refine zfG (zo (kk7 hk) (zo hgx hgl)) ?_
 refine c_mBytes7 (m:=uns7 m c) hs hk ?_
 by_cases h1:zaT (uns7 m c)=0
 ·have h1':(zaT (uns7 m c) != 0)=false:=by simp [h1]
  have h2:zaD (uns7 m c)=0:=by
   unfold zaT at h1
   split at h1
   ·rename_i hh;exact absurd h1 hh
   ·rename_i hh;simpa using hh
  obtain ⟨c',hc',he⟩:=check7 (m:=uns7 m c) hk h2
  obtain ⟨he1,he2⟩:=zkC he
  refine zA h1' ?_
  refine zj.pre (.dataB (σ.length+2) 0 [.exact []] (.exact []) [] (by rw [zB];rfl) rfl rfl (.refl _ _)) ?_
  rw [zT]
  refine c_wUns7 (b := []) (m:=uns7 m c) (c:=c') (by rw [zB];rfl) (by simp) hk hc' he1 ?_
  rw [zT]
  refine zQ ?_
  refine zt hl ?_
  rw [if_pos h1,h1] at hK
  exact hK
 ·have h1':(zaT (uns7 m c) != 0)=true:=by simp [h1]
  refine zA h1' ?_
  refine zt hl ?_
  rw [if_neg h1] at hK
  exact hK
abbrev uns8 (m:zcS):zcS:={ m with key := 0,sdig := 1 }
theorem some8 {m:zcS} (hk:m.kind=8):zbJ m=uns8 m:=by simp [zbJ,hk,show zvQ 8=true from rfl]
theorem zyv {m:zcS} (h:zbn m):zbn (uns8 m):=by
 obtain ⟨h1,h2,h3,h4,h5,h6,h7,h8,h9,h10⟩:=h
 exact ⟨h1,h2,h3,h4,h5,h6,h7,h8,h9,h10⟩
theorem c_mUnsigned8 {σ:List zd} {m:zcS} (hm:zbn m) (hk:m.kind=8) {K:KT}
  (hK:K (.tup [.d (.slice (bcs (if zaT (zbJ m)=0 then zjb (zbJ m) else []))),.d (.int .i64 (zaT (zbJ m)))]) σ):zj Tryz.prog zfz [zeR m] σ K:=by
 refine zdZ zln fun hl => ?_
 have hs:=zyv hm
 rw [some8 hk] at hK
 simp only [zhx,iN,bT,bF,eN,zl4]
 refine zA (kk8 hk) ?_
 refine zml ?_
 refine zA (show zvQ m.kind=true by rw [hk];rfl) ?_
 refine c_mSome ?_
 refine zA (kk8 hk) ?_
 refine c_mBytes8 (m:=uns8 m) hs hk ?_
 by_cases h1:zaT (uns8 m)=0
 ·have h1':(zaT (uns8 m) != 0)=false:=by simp [h1]
  have h2:zaD (uns8 m)=0:=by
   unfold zaT at h1
   split at h1
   ·rename_i hh;exact absurd h1 hh
   ·rename_i hh;simpa using hh
  obtain ⟨he1,he2⟩:=check8 (m:=uns8 m) hk h2
  refine zA h1' ?_
  refine zj.pre (.dataB (σ.length+1) 0 [.exact []] (.exact []) [] (by rw [zB];rfl) rfl rfl (.refl _ _)) ?_
  rw [zT]
  refine c_wUns8 (b := []) (m:=uns8 m) (by rw [zB];rfl) (by simp) hk he1 ?_
  rw [zT]
  refine zQ ?_
  refine zt hl ?_
  rw [if_pos h1,h1] at hK
  exact hK
 ·have h1':(zaT (uns8 m) != 0)=true:=by simp [h1]
  refine zA h1' ?_
  refine zt hl ?_
  rw [if_neg h1] at hK
  exact hK
theorem bcs1 (l:List UInt8):∀ e∈bcs l,e.length=1:=by
 intro e he
 simp only [bcs,List.mem_map] at he
 obtain ⟨x,_,rfl⟩:=he
 rfl
theorem zvD {m:zcS} (h:zaT m=0):(zjb m).length<=262144:=by
 unfold zaT at h
 split at h
 ·rename_i hh;exact absurd h hh
 ·split at h
  ·cases h
  ·rename_i hh;simp only [zla,List.length_append] at hh;omega
theorem c_auContent7 {σ:List zd} {m:zcS} {c:zJ} (hm:zbn m) (hk:m.kind=7) (hc:m.changes = [c]) {K:KT}
  (hK:K (.tup [.d (.slice (bcs (zee m))),.d (.int .i64 (zaT (zbJ m)))]) σ):zj Tryz.prog zgs [zeR m] σ K:=by
 refine zdZ zqs fun hl => ?_
 simp only [zlK,iN,bT,bF,eN]
 refine zQ ?_
 refine c_mUnsigned7 (m:=m) hm hk hc ?_
 by_cases h1:zaT (zbJ m)=0
 ·have h1':(zaT (zbJ m) != 0)=false:=by simp [h1]
  have h2:zee m=6::zjb (zbJ m):=by simp [zee,h1]
  have hlen:=zvD h1
  rw [if_pos h1]
  refine zA (zo h1' (kk7 hk)) ?_
  refine ⟨bcs1 _,by simp,by omega,?_⟩
  refine zt hl ?_
  rw [h2,h1] at hK
  exact hK
 ·have h1':(zaT (zbJ m) != 0)=true:=by simp [h1]
  have h2:zee m = []:=by simp [zee,h1]
  rw [if_neg h1]
  refine zA h1' ?_
  refine zt hl ?_
  rw [h2] at hK
  exact hK
theorem zuA {σ:List zd} {m:zcS} (hm:zbn m) (hk:m.kind=8) {K:KT}
  (hK:K (.tup [.d (.slice (bcs (zee m))),.d (.int .i64 (zaT (zbJ m)))]) σ):zj Tryz.prog zgs [zeR m] σ K:=by
 refine zdZ zqs fun hl => ?_
 simp only [zlK,iN,bT,bF,eN]
 refine zQ ?_
 refine c_mUnsigned8 (m:=m) hm hk ?_
 by_cases h1:zaT (zbJ m)=0
 ·have h1':(zaT (zbJ m) != 0)=false:=by simp [h1]
  have h2:zee m=6::zjb (zbJ m):=by simp [zee,h1]
  have hlen:=zvD h1
  rw [if_pos h1]
  refine zA (zo h1' (kk8 hk)) ?_
  refine ⟨bcs1 _,by simp,by omega,?_⟩
  refine zt hl ?_
  rw [h2,h1] at hK
  exact hK
 ·have h1':(zaT (zbJ m) != 0)=true:=by simp [h1]
  have h2:zee m = []:=by simp [zee,h1]
  rw [if_neg h1]
  refine zA h1' ?_
  refine zt hl ?_
  rw [h2] at hK
  exact hK
theorem c_auOwn7 {σ:List zd} {m:zcS} {c:zJ} (hk:m.kind=7) (hc:m.changes = [c]) {K:KT} (hK:K (.agg [.d (.int .i64 (zuR m).key),.d (.int .i64 (zuR m).dig)]) σ):zj Tryz.prog zpJ [zeR m] σ K:=by
 refine zdZ zzh fun hl => ?_
 have hgx:(zR m.changes)[0]? = some (zat c):=by rw [hc];rfl
 have hgl:(zR m.changes).length=1:=by rw [hc];rfl
 simp only [zuf,iN,bT,bF,eN]
 refine zfG (zo (kk7 hk) (zo hgx hgl)) ?_
 refine zt hl ?_
 simp only [zuR,hk,if_true,hc] at hK
 exact hK
theorem c_auOwn8 {σ:List zd} {m:zcS} (hk:m.kind=8) {K:KT} (hK:K (.agg [.d (.int .i64 (zuR m).key),.d (.int .i64 (zuR m).dig)]) σ):zj Tryz.prog zpJ [zeR m] σ K:=by
 refine zdZ zzh fun hl => ?_
 simp only [zuf,iN,bT,bF,eN]
 refine zA (kk8 hk) ?_
 refine zt hl ?_
 rw [show zuR m=⟨m.key,m.sdig⟩ by simp [zuR,hk]] at hK
 exact hK
theorem c_auChange {σ:List zd} {c:zJ} {K:KT} (hK:K (zeR (vcM c)) σ):zj Tryz.prog zmW [.agg (zbj c)] σ K:=by
 refine zdZ zAC fun hl => ?_
 simp only [zsR,iN,bT,bF,eN,zl0,zl4]
 refine zQ ?_
 refine zt hl ?_
 exact hK
end Go.Proofs.YtpgahkdjkanblaaGreat
