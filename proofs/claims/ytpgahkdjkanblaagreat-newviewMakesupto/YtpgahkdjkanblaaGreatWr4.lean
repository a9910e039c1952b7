/- Contracts: the bytes of messages with and without their signature, the program's: view-changes and new views. -/
import Derived.Test.YtpgahkdjkanblaaGreatWr2
import Derived.Test.YtpgahkdjkanblaaGreatQu1
import Derived.Test.YtpgahkdjkanblaaGreatSpTab
set_option linter.all false
set_option maxRecDepth 100000
namespace Go.Proofs.YtpgahkdjkanblaaGreat
open Go.AW
theorem c_mBytes7 {σ:List zh} {m:zee} (hm:zbP m) (hk:m.kind=7) {K:KT} (hK:K (.tup [.d (.slice (bcs (zhq m))),.d (.int .i64 (zba m))]) σ) :
  zo Tryz.prog zhn [zge m] σ K:=by
 refine zd zhw.is rfl fun hl _=>zhw.goes ?_
 have fin:∀ x z,zhq m=x->zba m=z->K (.tup [.d (.slice (bcs x)),.d (.int .i64 z)]) σ:=fun x z h h'=>h ▸ h' ▸ hK
 clear hK
 simp only [zkW,iN,bT,bF,eN]
 refine zab ?_
 refine c_mCheck7 (m:=m) hm hk ?_
 cases h1:(zaN m != 0)
 rotate_left
 ·have h1':zaN m ≠ 0:=by simpa using h1
  have e1:zba m=zaN m:=by simp [zba,h1']
  have e2:zhq m = []:=by simp [zhq,e1,h1']
  refine zB h1 ?_
  refine zw hl ?_
  exact fin _ _ e2 e1
 have h1':zaN m=0:=by simpa using h1
 obtain ⟨c,hc,he⟩:=check7 hk h1'
 obtain ⟨he1,he2⟩:=zkJ he
 have hgx:(zan m.changes)[0]? = some (zaE c):=by rw [hc];rfl
 have hgl:(zan m.changes).length=1:=by rw [hc];rfl
 have n0:=zp (n:=m.kind.toNat) (by omega)
 have n1:=zpB he1
 have n2:=zfv he2
 have hu:zkb m=zcI m.kind.toNat++ztT c:=by simp [zkb,hk,hc]
 have hf:zlc m=zkb m++zfR c.key c.dig:=by simp [zlc,ownS,hk,hc]
 refine zB h1 ?_
 refine zo.pre (.dataB (σ.length+1) 0 [.exact []] (.exact []) [] (by simp) rfl rfl (.refl _ _)) ?_
 have hW:((σ++[zqE m,.box [.exact []]]).set (σ.length+1) (.box (([AV.exact []]:List AV).set 0 (.d (.slice []))))) = σ++[zqE m,wO []]:=by rw [zL];rfl
 rw [hW]
 refine c_wUns7 (b := []) (m:=m) (c:=c) (by rw [zC];rfl) (by simp) hk hc he1 ?_
 rw [zL]
 refine zhH (ze (show (m.kind == 1)=false by rw [hk];rfl) (ze (show (m.kind == 2)=false by rw [hk];rfl) (ze (show (m.kind == 3)=false by rw [hk];rfl) (ze (show (m.kind == 4)=false by rw [hk];rfl) (ze (show (m.kind == 5)=false by rw [hk];rfl) (ze (show (m.kind == 6)=false by rw [hk];rfl) (ze (show (m.kind == 7)=true by rw [hk];rfl) (ze (show (m.kind == 8)=false by rw [hk];rfl) (ze (show (m.kind == 9)=false by rw [hk];rfl) (ze (show (m.kind == 10)=false by rw [hk];rfl) (ze (show (m.kind == 11)=false by rw [hk];rfl) (ze (show (m.kind == 12)=false by rw [hk];rfl) (ze hgx hgl))))))))))))) ?_
 refine zAe (b:=zkb m) (by rw [zC];rfl) (by rw [hu];simp only [List.length_append];omega) he2 ?_
 rw [zL]
 refine zab ?_
 refine c_wShort (b:=zkb m++zfR c.key c.dig) (by rw [zC];rfl) ?_
 have hlen:¬ (zkb m++zfR c.key c.dig).length > 262144:=by rw [hu];simp only [List.length_append];omega
 rw [if_neg hlen,if_neg hlen]
 refine zab ?_
 refine zw hl ?_
 have e1:zba m=0:=by simp only [zba,h1',ne_eq,not_true,if_false,hf,hlen]
 refine fin _ _ ?_ e1
 simp [zhq,e1,hf]
theorem c_mBytes8 {σ:List zh} {m:zee} (hm:zbP m) (hk:m.kind=8) {K:KT} (hK:K (.tup [.d (.slice (bcs (zhq m))),.d (.int .i64 (zba m))]) σ) :
  zo Tryz.prog zhn [zge m] σ K:=by
 refine zd zhw.is rfl fun hl _=>zhw.goes ?_
 have fin:∀ x z,zhq m=x->zba m=z->K (.tup [.d (.slice (bcs x)),.d (.int .i64 z)]) σ:=fun x z h h'=>h ▸ h' ▸ hK
 clear hK
 simp only [zkW,iN,bT,bF,eN]
 refine zab ?_
 refine c_mCheck8 (m:=m) hm hk ?_
 cases h1:(zaN m != 0)
 rotate_left
 ·have h1':zaN m ≠ 0:=by simpa using h1
  have e1:zba m=zaN m:=by simp [zba,h1']
  have e2:zhq m = []:=by simp [zhq,e1,h1']
  refine zB h1 ?_
  refine zw hl ?_
  exact fin _ _ e2 e1
 have h1':zaN m=0:=by simpa using h1
 obtain ⟨he1,he2⟩:=check8 hk h1'
 have n0:=zp (n:=m.kind.toNat) (by omega)
 have n1:=newvB_len he1
 have n2:=zfv he2
 have hu:zkb m=zcI m.kind.toNat++newvB m:=by simp [zkb,hk]
 have hf:zlc m=zkb m++zfR m.key m.sdig:=by simp [zlc,ownS,hk]
 refine zB h1 ?_
 refine zo.pre (.dataB (σ.length+1) 0 [.exact []] (.exact []) [] (by simp) rfl rfl (.refl _ _)) ?_
 have hW:((σ++[zqE m,.box [.exact []]]).set (σ.length+1) (.box (([AV.exact []]:List AV).set 0 (.d (.slice []))))) = σ++[zqE m,wO []]:=by rw [zL];rfl
 rw [hW]
 refine c_wUns8 (b := []) (m:=m) (by rw [zC];rfl) (by simp) hk he1 ?_
 rw [zL]
 refine zB (ze (show (m.kind == 1)=false by rw [hk];rfl) (ze (show (m.kind == 2)=false by rw [hk];rfl) (ze (show (m.kind == 3)=false by rw [hk];rfl) (ze (show (m.kind == 4)=false by rw [hk];rfl) (ze (show (m.kind == 5)=false by rw [hk];rfl) (ze (show (m.kind == 6)=false by rw [hk];rfl) (ze (show (m.kind == 7)=false by rw [hk];rfl) (ze (show (m.kind == 8)=true by rw [hk];rfl) (ze (show (m.kind == 9)=false by rw [hk];rfl) (ze (show (m.kind == 10)=false by rw [hk];rfl) (ze (show (m.kind == 11)=false by rw [hk];rfl) (show (m.kind == 12)=false by rw [hk];rfl)))))))))))) ?_
 refine zmB ?_
 refine zB (show zvE m.kind=true by rw [hk];rfl) ?_
 refine zAe (b:=zkb m) (by rw [zC];rfl) (by rw [hu];simp only [List.length_append];omega) he2 ?_
 rw [zL]
 refine zab ?_
 rw [← hf]
 have hS:(σ++List.set [zqE m,wO (zkb m)] 1 (wO (zlc m)))[σ.length+1]? = some (wO (zlc m)):=by rw [zC];rfl
 refine c_wShort (b:=zlc m) hS ?_
 by_cases hlen:(zlc m).length > 262144
 ·have e1:zba m=3:=by simp only [zba,h1',ne_eq,not_true,if_false,hlen,if_true]
  have e2:zhq m = []:=by simp [zhq,e1]
  rw [if_pos hlen,if_pos hlen]
  refine zab ?_
  refine zw hl ?_
  exact fin _ _ e2 e1
 ·have e1:zba m=0:=by simp only [zba,h1',ne_eq,not_true,if_false,hlen]
  have e2:zhq m=zlc m:=by simp [zhq,e1]
  rw [if_neg hlen,if_neg hlen]
  refine zab ?_
  refine zw hl ?_
  exact fin _ _ e2 e1
theorem c_mSome {σ:List zh} {K:KT} (hK:K (.agg [.d (.int .i64 0),.d (.int .i64 1)]) σ):zo Tryz.prog ziC [] σ K:=by
 refine zd zqP.is rfl fun hl _=>zqP.goes ?_
 simp only [zrc,iN,bT,bF,eN]
 refine zab ?_
 refine zw hl ?_
 exact hK
end Go.Proofs.YtpgahkdjkanblaaGreat

/- Contracts: tables of byte strings and ledgers of signatures, as the program keeps them. -/
set_option maxRecDepth 100000
namespace Go.Proofs.YtpgahkdjkanblaaGreat
open Go.AW
structure zeS (σ:List zh) (id m t:Nat) (l:List (List UInt8)):Prop where
 box : σ[id]? = some (.box [.own t (zjf l),.map m])
 map : σ[m]? = some (.map (tabM l))
 tok : σ[t]? = some (.tok 1 l.length)
structure zev (σ:List zh) (id m t:Nat) (g:List zK):Prop where
 box : σ[id]? = some (.box [.own t (zvN g),.map m])
 map : σ[m]? = some (.map (ledM g))
 tok : σ[t]? = some (.tok 2 g.length)
def putTab (σ:List zh) (id m t:Nat) (l:List (List UInt8)):List zh:=((σ.set t (.tok 1 l.length)).set id (.box [.own t (zjf l),.map m])).set m (.map (tabM l))
def putLed (σ:List zh) (id m t:Nat) (g:List zK):List zh:=((σ.set m (.map (ledM g))).set t (.tok 2 g.length)).set id (.box [.own t (zvN g),.map m])
abbrev zvt (n:Nat) (l:List (List UInt8)):List zh := [.map (tabM l),.box [.own (n+2) (zjf l),.map n],.tok 1 l.length]
abbrev ledO (n:Nat) (g:List zK):List zh := [.map (ledM g),.box [.own (n+2) (zvN g),.map n],.tok 2 g.length]
theorem zeS.ne {σ:List zh} {id m t:Nat} {l:List (List UInt8)} (h:zeS σ id m t l):id ≠ m/\id ≠ t/\m ≠ t:=by
 refine ⟨fun e => ?_,fun e => ?_,fun e => ?_⟩ <;> subst e
 ·have:=h.box;rw [h.map] at this;cases this
 ·have:=h.box;rw [h.tok] at this;cases this
 ·have:=h.map;rw [h.tok] at this;cases this
theorem zev.ne {σ:List zh} {id m t:Nat} {g:List zK} (h:zev σ id m t g):id ≠ m/\id ≠ t/\m ≠ t:=by
 refine ⟨fun e => ?_,fun e => ?_,fun e => ?_⟩ <;> subst e
 ·have:=h.box;rw [h.map] at this;cases this
 ·have:=h.box;rw [h.tok] at this;cases this
 ·have:=h.map;rw [h.tok] at this;cases this
theorem zeS.self {σ:List zh} {id m t:Nat} {l:List (List UInt8)} (h:zeS σ id m t l):putTab σ id m t l = σ:=by
 unfold putTab
 rw [zcz h.tok,zcz h.box,zcz h.map]
theorem zev.self {σ:List zh} {id m t:Nat} {g:List zK} (h:zev σ id m t g):putLed σ id m t g = σ:=by
 unfold putLed
 rw [zcz h.map,zcz h.tok,zcz h.box]
theorem zeS.app {σ:List zh} {id m t:Nat} {l:List (List UInt8)} (h:zeS σ id m t l) (τ:List zh):zeS (σ ++ τ) id m t l:=⟨zx h.box,zx h.map,zx h.tok⟩
theorem zev.app {σ:List zh} {id m t:Nat} {g:List zK} (h:zev σ id m t g) (τ:List zh):zev (σ ++ τ) id m t g:=⟨zx h.box,zx h.map,zx h.tok⟩
theorem tabAt_new (σ:List zh) (l:List (List UInt8)) (τ:List zh):zeS (σ++(zvt σ.length l ++ τ)) (σ.length+1) σ.length (σ.length+2) l :=
 ⟨by rw [zC];rfl,by rw [zt];rfl,by rw [zC];rfl⟩
theorem ledAt_new (σ:List zh) (g:List zK) (τ:List zh):zev (σ++(ledO σ.length g ++ τ)) (σ.length+1) σ.length (σ.length+2) g :=
 ⟨by rw [zC];rfl,by rw [zt];rfl,by rw [zC];rfl⟩
theorem zxU (σ:List zh) (l l':List (List UInt8)) (τ:List zh):putTab (σ++(zvt σ.length l ++ τ)) (σ.length+1) σ.length (σ.length+2) l' = σ++(zvt σ.length l' ++ τ):=by
 unfold putTab
 rw [zL,zL,zF];rfl
theorem putLed_new (σ:List zh) (g g':List zK) (τ:List zh):putLed (σ++(ledO σ.length g ++ τ)) (σ.length+1) σ.length (σ.length+2) g' = σ++(ledO σ.length g' ++ τ):=by
 unfold putLed
 rw [zF,zL,zL];rfl
theorem zto {σ:List zh} {id m t:Nat} {l:List (List UInt8)} (h:zeS σ id m t l) (l':List (List UInt8)) (τ:List zh):putTab (σ ++ τ) id m t l' = putTab σ id m t l' ++ τ:=by
 have h1:=zcT h.box;have h2:=zcT h.map;have h3:=zcT h.tok
 unfold putTab
 rw [List.set_append_left _ _ h3,List.set_append_left _ _ (by simpa using h1),List.set_append_left _ _ (by simpa using h2)]
theorem ztp {σ:List zh} {id m t:Nat} {g:List zK} (h:zev σ id m t g) (g':List zK) (τ:List zh):putLed (σ ++ τ) id m t g' = putLed σ id m t g' ++ τ:=by
 have h1:=zcT h.box;have h2:=zcT h.map;have h3:=zcT h.tok
 unfold putLed
 rw [List.set_append_left _ _ h2,List.set_append_left _ _ (by simpa using h3),List.set_append_left _ _ (by simpa using h1)]
theorem zqe (σ:List zh) (id m t:Nat) (l:List (List UInt8)):(putTab σ id m t l).length = σ.length:=by simp [putTab]
theorem zxV (σ:List zh) (id m t:Nat) (g:List zK):(putLed σ id m t g).length = σ.length:=by simp [putLed]
theorem ztF {n:Nat} (l:List (List UInt8)):zxv n (.map (tabM l)):=by
 have key:∀ (l:List (List UInt8)) (i:Nat), ∀ e ∈ zxw l i,Low n e.1/\Low n e.2:=by
  intro l
  induction l with
  | nil=>intro i e h;cases h
  | cons x r ih =>
   intro i e h
   simp only [zxw,List.mem_cons] at h
   rcases h with rfl | h
   ·exact ⟨.d _,.d _⟩
   ·exact ih _ e h
 exact fun e he=>key l 0 e he
theorem ztG {n:Nat} (g:List zK):zxv n (.map (ledM g)):=by
 intro e he
 simp only [ledM,List.mem_map] at he
 obtain ⟨s,_,rfl⟩:=he
 exact ⟨.agg _ (by simp [zfO]),.d _⟩
theorem zyf {n t m:Nat} {es:List (List D)} (ht:t<n) (hm:m<n):zxv n (.box [.own t es,.map m]):=by
 intro c hc
 simp only [List.mem_cons,List.not_mem_nil,or_false] at hc
 rcases hc with rfl | rfl
 ·exact .own _ _ ht
 ·exact .map _ hm
theorem zeS.lows {σ:List zh} {id m t:Nat} {l:List (List UInt8)} (h:zeS σ id m t l) (hl:ziu σ.length σ) (l':List (List UInt8)):ziu σ.length (putTab σ id m t l') :=
 ((hl.setO (show zxv _ (.tok 1 l'.length) from trivial)).setO (zyf (zcT h.tok) (zcT h.map))).setO (ztF l')
theorem zev.lows {σ:List zh} {id m t:Nat} {g:List zK} (h:zev σ id m t g) (hl:ziu σ.length σ) (g':List zK):ziu σ.length (putLed σ id m t g') :=
 ((hl.setO (ztG g')).setO (show zxv _ (.tok 2 g'.length) from trivial)).setO (zyf (zcT h.tok) (zcT h.map))
theorem low_tabO (n:Nat) (l:List (List UInt8)):∀ x ∈ zvt n l,zxv (n+(zvt n l).length) x:=by
 intro x hx
 simp only [List.mem_cons,List.not_mem_nil,or_false] at hx
 rcases hx with rfl | rfl | rfl
 ·exact ztF l
 ·exact zyf (by simp) (by simp)
 ·trivial
theorem low_ledO (n:Nat) (g:List zK):∀ x ∈ ledO n g,zxv (n+(ledO n g).length) x:=by
 intro x hx
 simp only [List.mem_cons,List.not_mem_nil,or_false] at hx
 rcases hx with rfl | rfl | rfl
 ·exact ztG g
 ·exact zyf (by simp) (by simp)
 ·trivial
end Go.Proofs.YtpgahkdjkanblaaGreat
