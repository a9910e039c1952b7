/- Byte strings and their numbers; what was signed. No program in sight. -/
import Derived.Test.YtpgahkdjkanblaaGreatSpOp
import Derived.Test.YtpgahkdjkanblaaGreatAwFrz
import Derived.Test.YtpgahkdjkanblaaGreatSh
import GoSem.Core.Utf8
set_option linter.all false
namespace Go.AW
def zju:List (List UInt8)->List UInt8->Nat->Option Nat
 | [],_,_=>none
 | x::r,b,i=>if b=x then some i else zju r b (i+1)
def zev (l:List (List UInt8)) (b:List UInt8):Option Nat:=zju l b 0
def zlS:Option Nat->Int
 | some i=>((i+1:Nat):Int)
 | none => 0
def zon (l:List (List UInt8)) (b:List UInt8):Int:=match zev l b with
 | some i=>((i+1:Nat):Int)
 | none=>if l.length≥1048576 then 0 else ((l.length+1:Nat):Int)
def zgn (l:List (List UInt8)) (b:List UInt8):List (List UInt8):=match zev l b with
 | some _=>l
 | none=>if l.length≥1048576 then l else l++[b]
abbrev ziF (l:List (List UInt8)):List (List D):=l.map fun b => [D.slice (bcs b)]
def zxQ:List (List UInt8)->Nat->List (AV × AV)
 | [],_ => []
 | x::r,i=>(.d (.str x),.d (.int .i64 ((i+1:Nat):Int)))::zxQ r (i+1)
def tabM (l:List (List UInt8)):List (AV × AV):=zxQ l 0
theorem zyM (b:List UInt8):∀ (l:List (List UInt8)) (i:Nat),znW .str (.d (.str b)) (zxQ l i) i=some ((zju l b i).map fun k=>(k,.d (.int .i64 ((k+1:Nat):Int))))
 | [],_=>rfl
 | x::r,i=>by
  simp only [zxQ,znW,zil,zju]
  by_cases h:b=x
  ·simp [h]
  ·have:(b==x)=false:=by simpa using h
   simp only [this,if_neg h]
   exact zyM b r (i+1)
theorem mfind_tab (l:List (List UInt8)) (b:List UInt8):znW .str (.d (.str b)) (tabM l) 0=some ((zev l b).map fun k=>(k,.d (.int .i64 ((k+1:Nat):Int)))):=zyM b l 0
theorem tabMA_add (x:List UInt8):∀ (l:List (List UInt8)) (i:Nat),zxQ (l++[x]) i=zxQ l i++[(.d (.str x),.d (.int .i64 ((i+l.length+1:Nat):Int)))]
 | [],i=>by simp [zxQ]
 | y::r,i=>by
  simp only [List.cons_append,zxQ,tabMA_add x r (i+1),List.length_cons]
  rw [show i+1+r.length+1=i+(r.length+1)+1 by omega]
theorem tabM_add (l:List (List UInt8)) (x:List UInt8):tabM l++[(.d (.str x),.d (.int .i64 ((l.length+1:Nat):Int)))]=tabM (l++[x]):=by
 unfold tabM
 rw [tabMA_add];simp
theorem lookAt_lt {b:List UInt8}:∀ {l:List (List UInt8)} {i k:Nat},zju l b i=some k->i<=k/\k<i+l.length/\l[k-i]? = some b
 | [],_,_,h=>by simp [zju] at h
 | x::r,i,k,h=>by
  simp only [zju] at h
  split at h
  ·rename_i e
   cases h;subst e;simp
  ·obtain ⟨h1,h2,h3⟩:=lookAt_lt h
   refine ⟨by omega,by simp;omega,?_⟩
   obtain ⟨m,hm⟩:∃ m,k-i=m+1:=⟨k-i-1,by omega⟩
   rw [hm,List.getElem?_cons_succ]
   rw [show k-(i+1)=m by omega] at h3
   exact h3
theorem lookF_lt {l:List (List UInt8)} {b:List UInt8} {k:Nat} (h:zev l b=some k):k<l.length/\l[k]? = some b:=by
 have:=lookAt_lt h
 simpa using this.2
theorem zpL {b:List UInt8} {m:List (List UInt8)}:∀ {l:List (List UInt8)} {i:Nat},zju (l++m) b i=match zju l b i with|some k=>some k|none=>zju m b (i+l.length)
 | [],i=>by simp [zju]
 | x::r,i=>by
  simp only [List.cons_append,zju,List.length_cons]
  split
  ·rfl
  ·rw [zpL,show i+1+r.length=i+(r.length+1) by omega]
theorem look_next {l:List (List UInt8)} {b x:List UInt8} {k:Nat} (h:l[k]? = some x) (h0:zev (l.take k) b=none) (hx:(x==b)=false):zev (l.take (k+1)) b=none:=by
 have e:¬ b=x:=fun e=>by subst e;simp at hx
 rw [List.take_add_one,h]
 unfold zev at h0 ⊢
 rw [zpL,h0]
 simp [zju,e]
theorem look_hit {l:List (List UInt8)} {b x:List UInt8} {k:Nat} (h:l[k]? = some x) (h0:zev (l.take k) b=none) (hx:(x==b)=true):zev l b=some k:=by
 have e:x=b:=by simpa using hx
 subst e
 obtain ⟨hk,hh⟩:=List.getElem?_eq_some_iff.1 h
 have e2:l=l.take k++(x::l.drop (k+1)):=by rw [← hh,List.getElem_cons_drop,List.take_append_drop]
 rw [e2]
 unfold zev at h0 ⊢
 rw [zpL,h0]
 simp [zju];omega
theorem zty {l:List (List UInt8)} {b:List UInt8} (h:b ∉ l):zev l b=none:=by
 cases e:zev l b with
 | none=>rfl
 | some k=>exact absurd (List.mem_of_getElem? (lookF_lt e).2) h
theorem zsa {l:List (List UInt8)} {b:List UInt8} (h:zev l b=none):b ∉ l:=by
 have key:∀ (l:List (List UInt8)) (i:Nat),zju l b i=none->b ∉ l:=by
  intro l
  induction l with
  | nil=>intro i _;simp
  | cons x r ih=>
   intro i h
   simp only [zju] at h
   split at h
   ·cases h
   ·rename_i hne
    simp only [List.mem_cons,not_or]
    exact ⟨hne,ih _ h⟩
 exact key l 0 h
abbrev zwg (l:List zy):List (List D):=zO l
def ledM (l:List zy):List (AV × AV):=l.map fun s=>(.agg [.d (.int .i64 s.key),.d (.int .i64 s.dig)],.d (.bool true))
def ledAt:List zy->zy->Nat->Option Nat
 | [],_,_=>none
 | x::r,s,i=>if s=x then some i else ledAt r s (i+1)
theorem sign_keyEq (s x:zy):zil (.ints 2) (.agg [.d (.int .i64 s.key),.d (.int .i64 s.dig)]) (.agg [.d (.int .i64 x.key),.d (.int .i64 x.dig)])=some (decide (s=x)):=by
 have e:s=x↔s.key=x.key/\s.dig=x.dig:=by cases s;cases x;simp
 by_cases h1:s.key=x.key
 ·by_cases h2:s.dig=x.dig
  ·rw [decide_eq_true (e.2 ⟨h1,h2⟩)]
   simp [zil,zdR,h1,h2]
  ·rw [decide_eq_false (fun h=>h2 (e.1 h).2)]
   have h2':(s.dig==x.dig)=false:=by simpa using h2
   simp [zil,zdR,h1,h2']
 ·rw [decide_eq_false (fun h=>h1 (e.1 h).1)]
  have h1':(s.key==x.key)=false:=by simpa using h1
  simp [zil,zdR,h1']
  try exact fun h=>absurd h h1
theorem ztt (s:zy):∀ (l:List zy) (i:Nat),znW (.ints 2) (.agg [.d (.int .i64 s.key),.d (.int .i64 s.dig)]) (ledM l) i=some ((ledAt l s i).map fun k=>(k,.d (.bool true)))
 | [],_=>rfl
 | x::r,i=>by
  have ih:=ztt s r (i+1)
  simp only [ledM] at ih
  simp only [ledM,List.map_cons,znW,sign_keyEq,ledAt]
  by_cases h:s=x
  ·simp [h]
  ·rw [decide_eq_false h,if_neg h]
   exact ih
theorem ztA {s:zy}:∀ {l:List zy} {i:Nat},ledAt l s i=none↔s ∉ l
 | [],i=>by simp [ledAt]
 | x::r,i=>by
  simp only [ledAt,List.mem_cons,not_or]
  by_cases h:s=x
  ·simp [h]
  ·rw [if_neg h,ztA];simp [h]
theorem zrV {l:List zy} {s:zy} (h:s∈l):∃ k,znW (.ints 2) (.agg [.d (.int .i64 s.key),.d (.int .i64 s.dig)]) (ledM l) 0=some (some (k,.d (.bool true))):=by
 rw [ztt]
 cases e:ledAt l s 0 with
 | none=>exact absurd h (ztA.1 e)
 | some k=>exact ⟨k,rfl⟩
theorem zur {l:List zy} {s:zy} (h:s ∉ l):znW (.ints 2) (.agg [.d (.int .i64 s.key),.d (.int .i64 s.dig)]) (ledM l) 0=some none:=by
 rw [ztt,ztA.2 h];rfl
theorem ledM_add (l:List zy) (s:zy):ledM l++[(.agg [.d (.int .i64 s.key),.d (.int .i64 s.dig)],.d (.bool true))]=ledM (l++[s]):=by simp [ledM]
def zzU (l:List zy) (s:zy):List zy:=if s∈l then l else l++[s]
def zjd (k d:Int):Int:=if k<0∨k≥21 then 20 else if d<1 then 1 else 0
theorem zcx {n:Nat} {σ' τ:List zd} {K:KT} {l:List AV} (hn : σ'.length=n) (h1:Low n (dmT (zcq l))) (hl:zgl n σ') (h:K (dmT (zcq l)) σ'):Ends n K (some l) (σ' ++ τ):=by
 subst hn
 unfold Ends
 rw [zlc]
 exact ⟨h1,hl,h⟩
theorem zsh {n:Nat} {σ':List zd} {K:KT} {l:List AV} (hn : σ'.length=n) (h1:Low n (dmT (zcq l))) (hl:zgl n σ') (h:K (dmT (zcq l)) σ'):Ends n K (some l) σ':=by
 have:=zcx (τ := []) hn h1 hl h
 simpa using this
theorem zma {σ τ:List zd} {id t:Nat} {es:List (List D)} {X:zd} {K:KT} {l:List AV} (hT : σ[id]? = some X) (h1:Low σ.length (dmT (zcq l))) (hl:zgl σ.length σ)
  (h:K (dmT (zcq l)) (σ.set id (.box [.d (.slice es)]))):EndsW σ.length K (some l) (σ.set id (.box [.own t es]) ++ τ):=by
 refine ⟨_,.dataB id 0 [.own t es] (.own t es) es (zn (zcl hT)) rfl rfl (.refl _ _),?_⟩
 rw [zbB (zcl hT),List.set_set]
 refine zgS h1 hl ?_ h
 intro c hc
 simp only [List.set_cons_zero,List.mem_cons,List.not_mem_nil,or_false] at hc
 subst hc;exact .d _
def at8 (s:List UInt8) (i:Nat):Nat:=(s[i]?.getD 0).toNat
def znS (c:Nat):Nat:=if c<128 then 1 else if 194<=c/\c<224 then 2 else if 224<=c/\c<240 then 3 else if 240<=c/\c<245 then 4 else 0
def zig (s:List UInt8) (z:Nat):Nat->Nat
 | 0=>at8 s 0 % 2 ^ (7-z)
 | i+1=>zig s z i*64+at8 s (i+1) % 64
def ztP (s:List UInt8) (i:Nat):Bool:=decide (128<=at8 s i/\at8 s i<192)
def zgQ (z:Nat):Nat:=if z=2 then 128 else if z=3 then 2048 else if z=4 then 65536 else 0
def zlM (s:List UInt8):Nat × Nat:=
 let z:=znS (at8 s 0)
 if z=0∨z > s.length then (0, 0)
 else if z=1 then (at8 s 0, 1)
 else if (∀ i,i<z → 1<=i->ztP s i=true) then
  if zig s z (z-1)<zgQ z∨zig s z (z-1) > 1114111∨(55296<=zig s z (z-1)/\zig s z (z-1)<57344) then (0, 0) else (zig s z (z-1),z)
 else (0, 0)
theorem zxi (s:List UInt8) (i:Nat):at8 s i<256:=(s[i]?.getD 0).toNat_lt
theorem znj (s:List UInt8) (p i:Nat):at8 (s.drop p) i=at8 s (p+i):=by simp [at8,List.getElem?_drop]
theorem get_at8 (s:List UInt8) (i:Nat):((ByteArray.mk s.toArray).get! i).toNat=at8 s i:=by
 simp only [ByteArray.get!,at8]
 rw [getElem!_def]
 simp only [List.getElem?_toArray]
 cases s[i]? <;> rfl
theorem all2 (p:Nat->Bool):(∀ i,i<2 → 1<=i->p i=true)↔p 1=true:=⟨fun h=>h 1 (by omega) (by omega),fun h i h1 h2=>by
 obtain rfl:i=1:=by omega
 exact h⟩
theorem all3 (p:Nat->Bool):(∀ i,i<3 → 1<=i->p i=true)↔p 1=true/\p 2=true:=⟨fun h=>⟨h 1 (by omega) (by omega),h 2 (by omega) (by omega)⟩,fun h i h1 h2=>by
 have:i=1∨i=2:=by omega
 rcases this with rfl|rfl
 ·exact h.1
 ·exact h.2⟩
theorem all4 (p:Nat->Bool):(∀ i,i<4 → 1<=i->p i=true)↔p 1=true/\p 2=true/\p 3=true:=⟨fun h=>⟨h 1 (by omega) (by omega),h 2 (by omega) (by omega),h 3 (by omega) (by omega)⟩,fun h i h1 h2=>by
 have:i=1∨i=2∨i=3:=by omega
 rcases this with rfl|rfl|rfl
 ·exact h.1
 ·exact h.2.1
 ·exact h.2.2⟩
def zsb (s:List UInt8):Nat × Nat:=if (zlM s).2=0 then (65533, 1) else zlM s
theorem decode_eq (s:List UInt8) (p:Nat) (hp:p<s.length):Utf8.decode ⟨s.toArray⟩ p=zsb (s.drop p):=by
 have hsz:(ByteArray.mk s.toArray).size=s.length:=by simp [ByteArray.size]
 have hl:(s.drop p).length=s.length-p:=by simp
 unfold Utf8.decode
 simp only [get_at8,hsz,Nat.add_zero]
 have h0:=zxi s p
 have h1:=zxi s (p+1)
 have h2:=zxi s (p+2)
 have h3:=zxi s (p+3)
 simp only [zsb,zlM,znS,hl,znj,Nat.add_zero]
 generalize e0:at8 s p=b0 at *
 generalize e1:at8 s (p+1)=b1 at *
 generalize e2:at8 s (p+2)=b2 at *
 generalize e3:at8 s (p+3)=b3 at *
 have hc1:ztP (s.drop p) 1=decide (128<=b1/\b1<192):=by simp only [ztP,znj,e1]
 have hc2:ztP (s.drop p) 2=decide (128<=b2/\b2<192):=by simp only [ztP,znj,e2]
 have hc3:ztP (s.drop p) 3=decide (128<=b3/\b3<192):=by simp only [ztP,znj,e3]
 have p2:zig (s.drop p) 2 1=b0 % 32*64+b1 % 64:=by simp only [zig,znj,Nat.add_zero,e0,e1]
 have p3:zig (s.drop p) 3 2=b0 % 16*4096+b1 % 64*64+b2 % 64:=by simp only [zig,znj,Nat.add_zero,e0,e1,e2];omega
 have p4:zig (s.drop p) 4 3=b0 % 8*262144+b1 % 64*4096+b2 % 64*64+b3 % 64:=by simp only [zig,znj,Nat.add_zero,e0,e1,e2,e3];omega
 have c1:(b1 / 64==2)=decide (128<=b1/\b1<192):=by rw [Bool.eq_iff_iff];simp;omega
 have c2:(b2 / 64==2)=decide (128<=b2/\b2<192):=by rw [Bool.eq_iff_iff];simp;omega
 have c3:(b3 / 64==2)=decide (128<=b3/\b3<192):=by rw [Bool.eq_iff_iff];simp;omega
 simp only [c1,c2,c3]
 by_cases a1:b0<128
 ·have:¬ (1 > s.length-p):=by omega
  simp [a1,this]
 by_cases a2:194<=b0/\b0<224
 ·have q1:(b0 / 32==6)=true:=by simp;omega
  have q2:(b0 / 16==14)=false:=by simp;omega
  have q3:(b0 / 8==30)=false:=by simp;omega
  simp only [a1,a2,q1,q2,q3,if_false,if_true,all2,hc1,p2,zgQ]
  by_cases l1:p+1<s.length
  ·have:¬ (2 > s.length-p):=by omega
   by_cases k1:128<=b1/\b1<192
   ·have g1:128<=b0 % 32*64+b1 % 64:=by omega
    have g2:¬ (b0 % 32*64+b1 % 64<128∨b0 % 32*64+b1 % 64 > 1114111∨55296<=b0 % 32*64+b1 % 64/\b0 % 32*64+b1 % 64<57344):=by omega
    simp [l1,this,k1,g1,g2,all2,hc1,p2,zgQ,Utf8.runeError]
   ·simp [l1,this,k1,all2,hc1,p2,zgQ,Utf8.runeError]
  ·have:2 > s.length-p:=by omega
   simp [l1,this,all2,hc1,p2,zgQ,Utf8.runeError]
 by_cases a3:224<=b0/\b0<240
 ·have q1:(b0 / 32==6)=false:=by simp;omega
  have q2:(b0 / 16==14)=true:=by simp;omega
  have q3:(b0 / 8==30)=false:=by simp;omega
  simp only [a1,a2,a3,q1,q2,q3,if_false,if_true,all3,hc1,hc2,p3,zgQ]
  by_cases l1:p+2<s.length
  ·have:¬ (3 > s.length-p):=by omega
   have l2:p+1<s.length:=by omega
   by_cases k1:128<=b1/\b1<192
   ·by_cases k2:128<=b2/\b2<192
    ·obtain ⟨v,hv⟩:∃ v,v=b0 % 16*4096+b1 % 64*64+b2 % 64:=⟨_,rfl⟩
     simp only [← hv]
     rw [← hv] at p3
     have hv':v<65536:=by omega
     by_cases g:v<2048∨55296<=v/\v<57344
     ·have g1:(decide (v≥2048)&&Utf8.valid (v:Int))=false:=by simp [Utf8.valid];omega
      have g2:v<2048∨v > 1114111∨55296<=v/\v<57344:=by omega
      simp [l1,l2,this,k1,k2,g2,g1,all3,hc1,hc2,p3,zgQ,Utf8.runeError]
     ·have g1:(decide (v≥2048)&&Utf8.valid (v:Int))=true:=by simp [Utf8.valid];omega
      have g2:¬ (v<2048∨v > 1114111∨55296<=v/\v<57344):=by omega
      rw [g1]
      simp [l1,l2,this,k1,k2,g2,all3,hc1,hc2,p3,zgQ,Utf8.runeError]
    ·simp [l1,l2,this,k1,k2,all3,hc1,hc2,p3,zgQ,Utf8.runeError]
   ·simp [l1,l2,this,k1,all3,hc1,hc2,p3,zgQ,Utf8.runeError]
  ·have:3 > s.length-p:=by omega
   simp [l1,this,all3,hc1,hc2,p3,zgQ,Utf8.runeError]
 by_cases a4:240<=b0/\b0<245
 ·have q1:(b0 / 32==6)=false:=by simp;omega
  have q2:(b0 / 16==14)=false:=by simp;omega
  have q3:(b0 / 8==30)=true:=by simp;omega
  simp only [a1,a2,a3,a4,q1,q2,q3,if_false,if_true,all4,hc1,hc2,hc3,p4,zgQ]
  by_cases l1:p+3<s.length
  ·have:¬ (4 > s.length-p):=by omega
   have l2:p+1<s.length:=by omega
   have l3:p+2<s.length:=by omega
   by_cases k1:128<=b1/\b1<192
   ·by_cases k2:128<=b2/\b2<192
    ·by_cases k3:128<=b3/\b3<192
     ·obtain ⟨v,hv⟩:∃ v,v=b0 % 8*262144+b1 % 64*4096+b2 % 64*64+b3 % 64:=⟨_,rfl⟩
      simp only [← hv]
      rw [← hv] at p4
      by_cases g:v<65536∨v > 1114111
      ·have g1:(decide (v≥65536)&&Utf8.valid (v:Int))=false:=by simp [Utf8.valid];omega
       have g2:v<65536∨v > 1114111∨55296<=v/\v<57344:=by omega
       rw [g1]
       simp [l1,l2,l3,this,k1,k2,k3,g2,all4,hc1,hc2,hc3,p4,zgQ,Utf8.runeError]
      ·have g1:(decide (v≥65536)&&Utf8.valid (v:Int))=true:=by simp [Utf8.valid];omega
       have g2:¬ (v<65536∨v > 1114111∨55296<=v/\v<57344):=by omega
       rw [g1]
       simp [l1,l2,l3,this,k1,k2,k3,g2,all4,hc1,hc2,hc3,p4,zgQ,Utf8.runeError]
     ·simp [l1,l2,l3,this,k1,k2,k3,all4,hc1,hc2,hc3,p4,zgQ,Utf8.runeError]
    ·simp [l1,l2,l3,this,k1,k2,all4,hc1,hc2,hc3,p4,zgQ,Utf8.runeError]
   ·simp [l1,l2,l3,this,k1,all4,hc1,hc2,hc3,p4,zgQ,Utf8.runeError]
  ·have:4 > s.length-p:=by omega
   simp [l1,this,all4,hc1,hc2,hc3,p4,zgQ,Utf8.runeError]
 ·have q2:(b0 / 16==14)=false:=by simp;omega
  simp only [a1,a2,a3,a4,q2,if_false,if_true]
  by_cases q:b0 / 32=6
  ·have h192:b0=192∨b0=193:=by omega
   have q3:(b0 / 8==30)=false:=by simp;omega
   have g:¬ (b0 % 32*64+b1 % 64≥128):=by omega
   simp [q,q3,g,Utf8.runeError]
  ·by_cases q':b0 / 8=30
   ·have g:¬ ((b0 % 8*262144+b1 % 64*4096+b2 % 64*64+b3 % 64)<=1114111):=by omega
    obtain ⟨v,hv⟩:∃ v,v=b0 % 8*262144+b1 % 64*4096+b2 % 64*64+b3 % 64:=⟨_,rfl⟩
    rw [← hv] at g
    simp only [← hv]
    have g1:Utf8.valid (v:Int)=false:=by simp [Utf8.valid];omega
    simp [q,q',g1,Utf8.runeError]
   ·simp [q,q',Utf8.runeError]
theorem zmi (s:List UInt8):(zlM s).2<=s.length/\(zlM s).2<=4/\(zlM s).1<=1114111:=by
 have h0:=zxi s 0
 have hz:znS (at8 s 0)<=4:=by unfold znS;split<;>(try split)<;>(try split)<;>(try split)<;>omega
 simp only [zlM]
 split
 ·simp
 ·rename_i h
  split
  ·rename_i h1;simp only [];omega
  ·split
   ·split
    ·simp
    ·simp only [];omega
   ·simp
theorem goDec_width (s:List UInt8) (h:s≠[]):1<=(zsb s).2/\(zsb s).2<=s.length/\(zsb s).1<=1114111:=by
 have h1:=zmi s
 have h2:0<s.length:=List.length_pos_iff.2 h
 unfold zsb
 split
 ·simp;omega
 ·omega
def badF (v:Nat):Bool:=decide (v<33∨(127<=v/\v<=159)∨v=47∨v=65533)
def zfp:Nat->List UInt8->Option Nat
 | 0,_=>none
 | f+1,s=>if s = [] then some 0 else if (zlM s).2=0∨badF (zlM s).1=true then none else (zfp f (s.drop (zlM s).2)).map (· + 1)
def ziG (s:List UInt8):Nat:=match zfp (s.length+1) s with
 | some n=>if n > 16 then 0 else n
 | none => 0
def zjG (s:List UInt8):Bool:=decide (0<ziG s)
theorem goDec_bad (s:List UInt8):badF (zsb s).1=(decide ((zlM s).2=0) || badF (zlM s).1):=by
 unfold zsb
 split
 ·rename_i h;simp [h,badF]
 ·rename_i h;simp [h]
theorem goDec_good {s:List UInt8} (h:badF (zsb s).1=false):zsb s=zlM s/\(zlM s).2≠0/\badF (zlM s).1=false:=by
 rw [goDec_bad] at h
 simp at h
 exact ⟨by simp [zsb,h.1],h.1,h.2⟩
theorem zrm:∀ (f g:Nat) (s:List UInt8),s.length<f->s.length<g->zfp f s=zfp g s
 | 0,_,_,h,_=>by omega
 | _, 0,_,_,h=>by omega
 | f+1,g+1,s,h1,h2=>by
  simp only [zfp]
  split
  ·rfl
  ·rename_i hs
   split
   ·rfl
   ·rename_i hd
    have hw:=zmi s
    have:0<s.length:=List.length_pos_iff.2 hs
    rw [zrm f g _ (by simp;omega) (by simp;omega)]
def zai (x:zC):Int:=if x.client<0∨x.client≥8∨x.time<1∨x.time > 9007199254740992 then 80 else zcT zjG x.op
def zN (k d:Int):Int:=if k<0∨k≥21∨d<1∨d > 9007199254740992 then 81 else 0
def zzc (s:zC):Int:=if zai s≠0 then zai s else zN s.key s.dig
def znY:List zC->Int
 | [] => 0
 | s::r=>if zzc s≠0 then zzc s else znY r
def ndup (a b:zC):Prop := ¬ (a.client=b.client/\a.time=b.time)
instance:DecidableRel ndup:=fun a b=>inferInstanceAs (Decidable (¬ _))
def zr (l:List zC):Int:=
 if l.length > 4 then 3 else if znY l≠0 then znY l else if l.Pairwise ndup then 0 else 5
theorem zpM {l:List zC}:∀ {k:Nat} {x:zC},l[k]? = some x->znY (l.take k)=0->zzc x≠0->znY l=zzc x:=by
 induction l with
 | nil=>intro k x h;simp at h
 | cons s r ih=>
  intro k x h h0 hx
  cases k with
  | zero=>simp at h;subst h;simp [znY,hx]
  | succ k=>
   simp only [List.take_succ_cons,znY] at h0 ⊢
   simp at h
   split at h0
   ·rename_i hs;exact absurd h0 hs
   ·rename_i hs;rw [if_neg hs];exact ih h h0 hx
theorem zzb {l:List zC} {k:Nat} {x:zC} (h:l[k]? = some x) (h0:znY (l.take k)=0) (hx:zzc x=0):znY (l.take (k+1))=0:=by
 have key:∀ (a:List zC),znY a=0->znY (a++[x])=0:=by
  intro a
  induction a with
  | nil=>intro _;simp [znY,hx]
  | cons s r ih=>
   intro h
   simp only [List.cons_append,znY] at h ⊢
   split at h
   ·rename_i hs;exact absurd h hs
   ·rename_i hs;rw [if_neg hs];exact ih h
 rw [List.take_add_one,h]
 exact key _ h0
theorem zyG {l:List zC} {k:Nat} {x:zC} (h:l[k]? = some x) (h0:(l.take k).Pairwise ndup) (hx:∀ y∈l.take k, ¬ (x.client=y.client/\x.time=y.time)):(l.take (k+1)).Pairwise ndup:=by
 rw [List.take_add_one,h]
 refine List.pairwise_append.2 ⟨h0,by simp,fun a ha b hb => ?_⟩
 simp at hb;subst hb
 exact fun e=>hx a ha ⟨e.1.symm,e.2.symm⟩
theorem pairs_not {l:List zC} {k j:Nat} {x y:zC} (h:l[k]? = some x) (hy:l[j]? = some y) (hj:j<k) (hxy:x.client=y.client/\x.time=y.time):¬ l.Pairwise ndup:=by
 intro hp
 rw [List.pairwise_iff_getElem] at hp
 obtain ⟨hk,rfl⟩:=List.getElem?_eq_some_iff.1 h
 obtain ⟨hj',rfl⟩:=List.getElem?_eq_some_iff.1 hy
 exact hp j k hj' hk hj ⟨hxy.1.symm,hxy.2.symm⟩
def okO (o:TOp):Prop:=o.topic.length<=1073741824/\o.group.length<=1073741824/\o.recs.length<=1073741824/\∀ r∈o.recs,r.length<=1073741824
def okB (b:List zC):Prop:=b.length<=1073741824/\∀ x∈b,okO x.op
def numR (most:Nat):Nat->Nat->List UInt8->Except Int (Nat × List UInt8)
 | _,_,[] => .error 10
 | i,acc,c::r=>
  if i=9/\c.toNat > 1 then .error 11
  else if c.toNat<128 then (if (i > 0/\c.toNat=0)∨acc+c.toNat*128 ^ i > most then .error 11 else .ok (acc+c.toNat*128 ^ i,r))
  else numR most (i+1) (acc+c.toNat % 128*128 ^ i) r
def reqB (x:zC):List UInt8:=zcA x.client.toNat++(zcA x.time.toNat++opB x.op)
def zbK (x:zC):List UInt8:=if zai x=0 then reqB x else []
def zfL (k d:Int):List UInt8:=zcA k.toNat++zcA d.toNat
def zbF (k d:Int):List UInt8:=if zN k d=0 then zfL k d else []
def oneB (x:zC):List UInt8:=zup (reqB x)++zfL x.key x.dig
def zdv (l:List zC):List UInt8:=(l.map oneB).flatten
def zbN (l:List zC):List UInt8:=zcA l.length++zdv l
def zbw (l:List zC):List UInt8:=if zr l=0 then zbN l else []
theorem req_ok {x:zC} (h:zai x=0):0<=x.client/\x.client<8/\1<=x.time/\x.time<=9007199254740992/\zcT zjG x.op=0:=by
 unfold zai at h
 split at h
 ·cases h
 ·refine ⟨by omega,by omega,by omega,by omega,h⟩
theorem zzT {k d:Int} (h:zN k d=0):0<=k/\k<21/\1<=d/\d<=9007199254740992:=by
 unfold zN at h
 split at h
 ·cases h
 ·omega
theorem errs_mem {l:List zC} (h:znY l=0):∀ x∈l,zzc x=0:=by
 induction l with
 | nil=>simp
 | cons s r ih=>
  simp only [znY] at h
  split at h
  ·rename_i hs;exact absurd h hs
  ·rename_i hs
   intro x hx
   rcases List.mem_cons.1 hx with rfl|hx
   ·simpa using hs
   ·exact ih h x hx
theorem zjP {l:List zC} (h:zr l=0):l.length<=4/\(∀ x∈l,zai x=0/\zN x.key x.dig=0)/\l.Pairwise ndup:=by
 unfold zr at h
 split at h
 ·cases h
 ·split at h
  ·rename_i h1;exact absurd h h1
  ·split at h
   ·rename_i h0 h1 h2
    refine ⟨by omega,fun x hx => ?_,h2⟩
    have:=errs_mem (by simpa using h1) x hx
    unfold zzc at this
    split at this
    ·rename_i h3;exact absurd this h3
    ·rename_i h3;exact ⟨by simpa using h3,this⟩
   ·cases h
theorem opB_len {o:TOp} (h:zlf o<=268435456) (hc:zcT zjG o=0):(opB o).length<=zlf o+60:=by
 obtain ⟨k0,k4,o0,o1,_⟩:=zvv hc
 have hr:=zmG o.recs
 have hrb:=zlB o.recs (by unfold zlf at h;omega) o.recs.length
 rw [List.take_length] at hrb
 unfold zlf at h ⊢
 have n1:=zm (n:=o.kind.toNat) (by omega)
 have n2:=zm (n:=o.topic.length) (by omega)
 have n3:=zm (n:=o.group.length) (by omega)
 have n4:=zm (n:=o.offset.toNat) (by omega)
 have n5:=zm (n:=o.recs.length) (by omega)
 have hk:o.kind=0∨o.kind=1∨o.kind=2∨o.kind=3∨o.kind=4:=by omega
 rcases hk with hk|hk|hk|hk|hk
 ·rw [opB_0 hk];omega
 ·rw [opB_1 hk];simp only [List.length_append];omega
 ·rw [opB_2 hk];simp only [List.length_append];omega
 ·rw [opB_3 hk];simp only [List.length_append];omega
 ·rw [opB_4 hk];simp only [List.length_append];omega
theorem zAb {x:zC} (h:zlf x.op<=268435456) (hc:zai x=0):(reqB x).length<=zlf x.op+80:=by
 obtain ⟨c0,c8,t1,t2,ho⟩:=req_ok hc
 have:=opB_len h ho
 have n1:=zm (n:=x.client.toNat) (by omega)
 have n2:=zm (n:=x.time.toNat) (by omega)
 simp only [reqB,List.length_append];omega
theorem zfj {k d:Int} (h:zN k d=0):(zfL k d).length<=20:=by
 obtain ⟨k0,k1,d0,d1⟩:=zzT h
 have n1:=zm (n:=k.toNat) (by omega)
 have n2:=zm (n:=d.toNat) (by omega)
 simp only [zfL,List.length_append];omega
theorem oneB_len {x:zC} (h:zlf x.op<=20971520) (h1:zai x=0) (h2:zN x.key x.dig=0):(oneB x).length<=20971700:=by
 have a:=zAb (by omega) h1
 have b:=zfj h2
 have c:=ziv (x:=reqB x) (by omega)
 simp only [oneB,List.length_append];omega
theorem zni {l:List zC} (h:∀ x∈l,zlf x.op<=20971520) (hc:zr l=0) (k:Nat):(zdv (l.take k)).length<=83886800:=by
 obtain ⟨h4,hm,_⟩:=zjP hc
 have key:∀ (m:List zC),(∀ x∈m,x∈l)->(zdv m).length<=m.length*20971700:=by
  intro m
  induction m with
  | nil=>intro _;simp [zdv]
  | cons x m ih=>
   intro hsub
   have h1:=ih fun y hy=>hsub y (by simp [hy])
   have hx:=hsub x (by simp)
   have h2:=oneB_len (h x hx) (hm x hx).1 (hm x hx).2
   simp only [zdv,List.map_cons,List.flatten_cons,List.length_append,List.length_cons] at h1 ⊢
   omega
 have:=key (l.take k) fun x hx=>List.mem_of_mem_take hx
 have h5:(l.take k).length<=4:=by rw [List.length_take];omega
 have h6:(l.take k).length*20971700<=4*20971700:=Nat.mul_le_mul_right _ h5
 omega
theorem zlp {l:List zC} {k:Nat} {x:zC} (h:l[k]? = some x):zdv (l.take (k+1))=zdv (l.take k)++oneB x:=by
 rw [List.take_add_one,h];simp [zdv]
theorem zor {x:zC} (h:zlf x.op<=20971520):(zbK x).length<=20971600:=by
 unfold zbK
 split
 ·rename_i hc;have:=zAb (by omega) hc;omega
 ·simp
theorem zlH {l:List zC} (h:∀ x∈l,zlf x.op<=20971520):(zbw l).length<=83886900:=by
 unfold zbw
 split
 ·rename_i hc
  have:=zni h hc l.length
  rw [List.take_length] at this
  have h4:=(zjP hc).1
  have n1:=zm (n:=l.length) (by omega)
  simp only [zbN,List.length_append];omega
 ·simp
abbrev ziN (l:List Int):List (List D):=l.map fun t => [D.int .i64 t]
def zkX (x:Int):Bool:=decide (0<=x/\x<=9007199254740992)
def zvs (a b c d:Int):Bool:=zkX a&&(zkX b&&(zkX c&&zkX d))
def zaV (l:List Int):List UInt8:=(l.map fun x=>zcA x.toNat).flatten
def zkc (a b c d:Int):List UInt8 := 4::zaV [a,b,c,d]
theorem zvR {x:Int}:zkX x=true↔0<=x/\x<=9007199254740992:=by simp [zkX]
theorem zyI {l:List Int} {k:Nat} {x:Int} (h:l[k]? = some x):zaV (l.take (k+1))=zaV (l.take k)++zcA x.toNat:=by
 rw [List.take_add_one,h];simp [zaV]
theorem zrQ {l:List Int} (h:∀ x∈l,x<9223372036854775808):(zaV l).length<=l.length*10:=by
 induction l with
 | nil=>simp [zaV]
 | cons x l ih=>
  have h1:=h x (by simp)
  have h2:=zm (n:=x.toNat) (by omega)
  have h3:=ih fun y hy=>h y (by simp [hy])
  simp only [zaV,List.map_cons,List.flatten_cons,List.length_append,List.length_cons] at h3 ⊢
  omega
theorem zvC {a b c d:Int} (h:zvs a b c d=true):(zkc a b c d).length<=50:=by
 simp only [zvs,Bool.and_eq_true,zvR] at h
 have:=zrQ (l := [a,b,c,d]) (by intro x hx;simp at hx;omega)
 simp only [zkc,List.length_cons,List.length_nil] at this ⊢
 omega
theorem mayV_all (a b c d:Int):zvs a b c d = [a,b,c,d].all zkX:=by simp [zvs]
def zfJ (L:List (List UInt8)) (G:List zy) (s:zy) (key:Int) (b:List UInt8):Bool:=match zev L b with
 | some i=>decide (s.key=key/\s.dig=((i+1:Nat):Int))&&decide (s∈G)
 | none=>false
def zfy (L:List (List UInt8)) (G:List zy) (s:zy) (key a b c d:Int):Bool:=zvs a b c d&&zfJ L G s key (zkc a b c d)
structure THdr where
 seq:Int
 prev:Int
 batch:Int
 root:Int
 state:Int
deriving DecidableEq
abbrev hdrD (h:THdr):List D := [.int .i64 h.seq,.int .i64 h.prev,.int .i64 h.batch,.int .i64 h.root,.int .i64 h.state]
abbrev znX (l:List THdr):List (List D):=l.map hdrD
structure TPlaced where
 topic:List UInt8
 offset:Int
 rec_:List UInt8
def zbg:List Int->Int
 | [] => 0
 | e::r=>if e≠0 then e else zbg r
theorem zjL (a b:List Int):zbg (a++b)=if zbg a≠0 then zbg a else zbg b:=by
 induction a with
 | nil=>simp [zbg]
 | cons e r ih=>
  simp only [List.cons_append,zbg,ih]
  by_cases h:e=0
  ·simp [h]
  ·simp [h]
theorem zkx {a b:List Int} (h:zbg a=0):zbg (a++b)=zbg b:=by rw [zjL,if_neg (by simpa using h)]
theorem zws {a b:List Int} (h:zbg a≠0):zbg (a++b)=zbg a:=by rw [zjL,if_pos h]
def zok (e x:Int):Int:=if e≠0 then e else x
theorem thn_fst (e:Int) (l:List Int):zok e (zbg l)=zbg (e::l):=rfl
def inE (n lo hi:Int):Int:=if n<lo∨n > hi then 100 else 0
def zlL (n:Int):Int:=inE n 0 9007199254740992
def zrD (n:Int):Int:=inE n 1 9007199254740992
def nameE (s:List UInt8):Int:=if zjG s=true then 0 else 61
def zcs (l:List zy):List Int:=inE l.length 0 13::l.map fun s=>zN s.key s.dig
def zfd (c:zeP):Int:=if ((c.seq=0)≠(c.dig=0))∨(c.seq=0/\0<c.signs.length) then 100 else 0
def zdd (c:zeP):List Int:=zlL c.seq::zlL c.dig::zfd c::zcs c.signs
def hdrErr (h:THdr):List Int := [zrD h.seq,zlL h.prev,zlL h.batch,zlL h.root,zlL h.state]
structure znu where
 topic:List UInt8
 offset:Int
 rec_:List UInt8
 headers:List THdr
 index:Int
 count:Int
 path:List Int
 cert:zeP
abbrev proofA (p:znu):AV := .agg [.d (.str p.topic),.d (.int .i64 p.offset),.d (.slice (bcs p.rec_)),.d (.slice (znX p.headers)),.d (.int .i64 p.index),.d (.int .i64 p.count),.d (.slice (ziN p.path)),.d (.int .i64 p.cert.seq),.d (.int .i64 p.cert.dig),.d (.slice (zO p.cert.signs))]
abbrev zdu (c:zeP):AV := .agg [.d (.int .i64 c.seq),.d (.int .i64 c.dig),.d (.slice (zO c.signs))]
def proofErr1 (p:znu):List Int := [nameE p.topic,zlL p.offset,inE p.rec_.length 0 64,inE p.headers.length 0 64]
def proofErr2 (p:znu):List Int := [zlL p.index,inE p.count 0 16]
def proofErr3 (p:znu):List Int := [inE p.index 0 (p.count-1),inE p.path.length 0 8]
def proofErr (p:znu):List Int:=proofErr1 p++((p.headers.map hdrErr).flatten++(proofErr2 p++(proofErr3 p++(p.path.map zlL++zdd p.cert))))
theorem zAk {n lo hi:Int} (h:inE n lo hi=0):lo<=n/\n<=hi:=by
 unfold inE at h
 split at h
 ·cases h
 ·omega
theorem numE_0 {n:Int} (h:zlL n=0):0<=n/\n<=9007199254740992:=zAk h
end Go.AW
