/- Byte strings and their numbers; what was signed. No program in sight. -/
import Derived.Test.YtfgbofkdhfjegaaGreatCl1
import Derived.Test.YtfgbofkdhfjegaaGreatAwFrz
set_option linter.all false
namespace Go.AW
def zgR:List (List UInt8)->List UInt8->Nat->Option Nat
 | [],_,_=>none
 | x::r,b,i=>if b=x then some i else zgR r b (i+1)
def zcv (l:List (List UInt8)) (b:List UInt8):Option Nat:=zgR l b 0
def zfN:Option Nat->Int
 | some i=>((i+1:Nat):Int)
 | none => 0
def zdy (l:List (List UInt8)) (b:List UInt8):Int:=match zcv l b with
 | some i=>((i+1:Nat):Int)
 | none=>if l.length≥1048576 then 0 else ((l.length+1:Nat):Int)
def zeJ (l:List (List UInt8)) (b:List UInt8):List (List UInt8):=match zcv l b with
 | some _=>l
 | none=>if l.length≥1048576 then l else l++[b]
abbrev zgK (l:List (List UInt8)):List (List D):=l.map fun b => [D.slice (bcs b)]
def ztU:List (List UInt8)->Nat->List (AV × AV)
 | [],_ => []
 | x::r,i=>(.d (.str x),.d (.int .i64 ((i+1:Nat):Int)))::ztU r (i+1)
def tabM (l:List (List UInt8)):List (AV × AV):=ztU l 0
theorem zuz (b:List UInt8):∀ (l:List (List UInt8)) (i:Nat),zoU .str (.d (.str b)) (ztU l i) i=some ((zgR l b i).map fun k=>(k,.d (.int .i64 ((k+1:Nat):Int))))
 | [],_=>rfl
 | x::r,i=>by
  simp only [ztU,zoU,zgS,zgR]
  by_cases h:b=x
  ·simp [h]
  ·have:(b==x)=false:=by simpa using h
   simp only [this,if_neg h]
   exact zuz b r (i+1)
theorem mfind_tab (l:List (List UInt8)) (b:List UInt8):zoU .str (.d (.str b)) (tabM l) 0=some ((zcv l b).map fun k=>(k,.d (.int .i64 ((k+1:Nat):Int)))):=zuz b l 0
theorem tabMA_add (x:List UInt8):∀ (l:List (List UInt8)) (i:Nat),ztU (l++[x]) i=ztU l i++[(.d (.str x),.d (.int .i64 ((i+l.length+1:Nat):Int)))]
 | [],i=>by simp [ztU]
 | y::r,i=>by
  simp only [List.cons_append,ztU,tabMA_add x r (i+1),List.length_cons]
  rw [show i+1+r.length+1=i+(r.length+1)+1 by omega]
theorem tabM_add (l:List (List UInt8)) (x:List UInt8):tabM l++[(.d (.str x),.d (.int .i64 ((l.length+1:Nat):Int)))]=tabM (l++[x]):=by
 unfold tabM
 rw [tabMA_add];simp
theorem lookAt_lt {b:List UInt8}:∀ {l:List (List UInt8)} {i k:Nat},zgR l b i=some k->i<=k/\k<i+l.length/\l[k-i]? = some b
 | [],_,_,h=>by simp [zgR] at h
 | x::r,i,k,h=>by
  simp only [zgR] at h
  split at h
  ·rename_i e
   cases h;subst e;simp
  ·obtain ⟨h1,h2,h3⟩:=lookAt_lt h
   refine ⟨by omega,by simp;omega,?_⟩
   obtain ⟨m,hm⟩:∃ m,k-i=m+1:=⟨k-i-1,by omega⟩
   rw [hm,List.getElem?_cons_succ]
   rw [show k-(i+1)=m by omega] at h3
   exact h3
theorem zhP {l:List (List UInt8)} {b:List UInt8} {k:Nat} (h:zcv l b=some k):k<l.length/\l[k]? = some b:=by
 have:=lookAt_lt h
 simpa using this.2
theorem zjW {b:List UInt8} {m:List (List UInt8)}:∀ {l:List (List UInt8)} {i:Nat},zgR (l++m) b i=match zgR l b i with|some k=>some k|none=>zgR m b (i+l.length)
 | [],i=>by simp [zgR]
 | x::r,i=>by
  simp only [List.cons_append,zgR,List.length_cons]
  split
  ·rfl
  ·rw [zjW,show i+1+r.length=i+(r.length+1) by omega]
theorem look_next {l:List (List UInt8)} {b x:List UInt8} {k:Nat} (h:l[k]? = some x) (h0:zcv (l.take k) b=none) (hx:(x==b)=false):zcv (l.take (k+1)) b=none:=by
 have e:¬ b=x:=fun e=>by subst e;simp at hx
 rw [List.take_add_one,h]
 unfold zcv at h0 ⊢
 rw [zjW,h0]
 simp [zgR,e]
theorem look_hit {l:List (List UInt8)} {b x:List UInt8} {k:Nat} (h:l[k]? = some x) (h0:zcv (l.take k) b=none) (hx:(x==b)=true):zcv l b=some k:=by
 have e:x=b:=by simpa using hx
 subst e
 obtain ⟨hk,hh⟩:=List.getElem?_eq_some_iff.1 h
 have e2:l=l.take k++(x::l.drop (k+1)):=by rw [← hh,List.getElem_cons_drop,List.take_append_drop]
 rw [e2]
 unfold zcv at h0 ⊢
 rw [zjW,h0]
 simp [zgR];omega
theorem zuE {l:List (List UInt8)} {b:List UInt8} (h:b ∉ l):zcv l b=none:=by
 cases e:zcv l b with
 | none=>rfl
 | some k=>exact absurd (List.mem_of_getElem? (zhP e).2) h
theorem zvU {l:List (List UInt8)} {b:List UInt8} (h:zcv l b=none):b ∉ l:=by
 have key:∀ (l:List (List UInt8)) (i:Nat),zgR l b i=none->b ∉ l:=by
  intro l
  induction l with
  | nil=>intro i _;simp
  | cons x r ih=>
   intro i h
   simp only [zgR] at h
   split at h
   ·cases h
   ·rename_i hne
    simp only [List.mem_cons,not_or]
    exact ⟨hne,ih _ h⟩
 exact key l 0 h
theorem look_new (l:List (List UInt8)) (b:List UInt8) (h:zcv l b=none):zcv (l++[b]) b=some l.length:=by
 unfold zcv at h ⊢
 rw [zjW,h]
 simp [zgR]
theorem look_more {l m:List (List UInt8)} {b:List UInt8} {k:Nat} (h:zcv l b=some k):zcv (l++m) b=some k:=by
 unfold zcv at h ⊢
 rw [zjW,h]
abbrev zpL (l:List zI):List (List D):=zaW l
def ztQ (l:List zI):List (AV × AV):=l.map fun s=>(.agg [.d (.int .i64 s.key),.d (.int .i64 s.dig)],.d (.bool true))
def ledAt:List zI->zI->Nat->Option Nat
 | [],_,_=>none
 | x::r,s,i=>if s=x then some i else ledAt r s (i+1)
theorem sign_keyEq (s x:zI):zgS (.ints 2) (.agg [.d (.int .i64 s.key),.d (.int .i64 s.dig)]) (.agg [.d (.int .i64 x.key),.d (.int .i64 x.dig)])=some (decide (s=x)):=by
 have e:s=x↔s.key=x.key/\s.dig=x.dig:=by cases s;cases x;simp
 by_cases h1:s.key=x.key
 ·by_cases h2:s.dig=x.dig
  ·rw [decide_eq_true (e.2 ⟨h1,h2⟩)]
   simp [zgS,zdX,h1,h2]
  ·rw [decide_eq_false (fun h=>h2 (e.1 h).2)]
   have h2':(s.dig==x.dig)=false:=by simpa using h2
   simp [zgS,zdX,h1,h2']
 ·rw [decide_eq_false (fun h=>h1 (e.1 h).1)]
  have h1':(s.key==x.key)=false:=by simpa using h1
  simp [zgS,zdX,h1']
  try exact fun h=>absurd h h1
theorem zqn (s:zI):∀ (l:List zI) (i:Nat),zoU (.ints 2) (.agg [.d (.int .i64 s.key),.d (.int .i64 s.dig)]) (ztQ l) i=some ((ledAt l s i).map fun k=>(k,.d (.bool true)))
 | [],_=>rfl
 | x::r,i=>by
  have ih:=zqn s r (i+1)
  simp only [ztQ] at ih
  simp only [ztQ,List.map_cons,zoU,sign_keyEq,ledAt]
  by_cases h:s=x
  ·simp [h]
  ·rw [decide_eq_false h,if_neg h]
   exact ih
theorem zqq {s:zI}:∀ {l:List zI} {i:Nat},ledAt l s i=none↔s ∉ l
 | [],i=>by simp [ledAt]
 | x::r,i=>by
  simp only [ledAt,List.mem_cons,not_or]
  by_cases h:s=x
  ·simp [h]
  ·rw [if_neg h,zqq];simp [h]
theorem zoT {l:List zI} {s:zI} (h:s∈l):∃ k,zoU (.ints 2) (.agg [.d (.int .i64 s.key),.d (.int .i64 s.dig)]) (ztQ l) 0=some (some (k,.d (.bool true))):=by
 rw [zqn]
 cases e:ledAt l s 0 with
 | none=>exact absurd h (zqq.1 e)
 | some k=>exact ⟨k,rfl⟩
theorem zqR {l:List zI} {s:zI} (h:s ∉ l):zoU (.ints 2) (.agg [.d (.int .i64 s.key),.d (.int .i64 s.dig)]) (ztQ l) 0=some none:=by
 rw [zqn,zqq.2 h];rfl
theorem ledM_add (l:List zI) (s:zI):ztQ l++[(.agg [.d (.int .i64 s.key),.d (.int .i64 s.dig)],.d (.bool true))]=ztQ (l++[s]):=by simp [ztQ]
def zlA (l:List zI) (s:zI):List zI:=if s∈l then l else l++[s]
def zei (k d:Int):Int:=if k<0∨k≥21 then 20 else if d<1 then 1 else 0
theorem zef {n:Nat} {σ' τ:List zg} {K:KT} {l:List AV} (hn : σ'.length=n) (h1:Low n (dmT (zcH l))) (hl:zfv n σ') (h:K (dmT (zcH l)) σ'):Ends n K (some l) (σ' ++ τ):=by
 subst hn
 unfold Ends
 rw [zja]
 exact ⟨h1,hl,h⟩
theorem zgU {n:Nat} {σ':List zg} {K:KT} {l:List AV} (hn : σ'.length=n) (h1:Low n (dmT (zcH l))) (hl:zfv n σ') (h:K (dmT (zcH l)) σ'):Ends n K (some l) σ':=by
 have:=zef (τ := []) hn h1 hl h
 simpa using this
theorem zuU {σ τ:List zg} {id t:Nat} {es:List (List D)} {X:zg} {K:KT} {l:List AV} (hT : σ[id]? = some X) (h1:Low σ.length (dmT (zcH l))) (hl:zfv σ.length σ)
  (h:K (dmT (zcH l)) (σ.set id (.box [.d (.slice es)]))):EndsW σ.length K (some l) (σ.set id (.box [.own t es]) ++ τ):=by
 refine ⟨_,.dataB id 0 [.own t es] (.own t es) es (zd (zbr hT)) rfl rfl (.refl _ _),?_⟩
 rw [zbZ (zbr hT),List.set_set]
 refine zhY h1 hl ?_ h
 intro c hc
 simp only [List.set_cons_zero,List.mem_cons,List.not_mem_nil,or_false] at hc
 subst hc;exact .d _
end Go.AW

/- Contracts: tables of byte strings and ledgers of signatures, as the program zvW them. -/
set_option maxRecDepth 100000
namespace Go.Proofs.YtfgbofkdhfjegaaGreat
open Go.AW
structure zdo (σ:List zg) (id m t:Nat) (l:List (List UInt8)):Prop where
 box : σ[id]? = some (.box [.own t (zgK l),.map m])
 map : σ[m]? = some (.map (tabM l))
 tok : σ[t]? = some (.tok 1 l.length)
structure zee (σ:List zg) (id m t:Nat) (g:List zI):Prop where
 box : σ[id]? = some (.box [.own t (zpL g),.map m])
 map : σ[m]? = some (.map (ztQ g))
 tok : σ[t]? = some (.tok 2 g.length)
def putTab (σ:List zg) (id m t:Nat) (l:List (List UInt8)):List zg:=((σ.set t (.tok 1 l.length)).set id (.box [.own t (zgK l),.map m])).set m (.map (tabM l))
def putLed (σ:List zg) (id m t:Nat) (g:List zI):List zg:=((σ.set m (.map (ztQ g))).set t (.tok 2 g.length)).set id (.box [.own t (zpL g),.map m])
abbrev tabO (n:Nat) (l:List (List UInt8)):List zg := [.map (tabM l),.box [.own (n+2) (zgK l),.map n],.tok 1 l.length]
abbrev ledO (n:Nat) (g:List zI):List zg := [.map (ztQ g),.box [.own (n+2) (zpL g),.map n],.tok 2 g.length]
theorem zdo.ne {σ:List zg} {id m t:Nat} {l:List (List UInt8)} (h:zdo σ id m t l):id≠m/\id≠t/\m≠t:=by
 refine ⟨fun e => ?_,fun e => ?_,fun e => ?_⟩<;>subst e
 ·have:=h.box;rw [h.map] at this;cases this
 ·have:=h.box;rw [h.tok] at this;cases this
 ·have:=h.map;rw [h.tok] at this;cases this
theorem zee.ne {σ:List zg} {id m t:Nat} {g:List zI} (h:zee σ id m t g):id≠m/\id≠t/\m≠t:=by
 refine ⟨fun e => ?_,fun e => ?_,fun e => ?_⟩<;>subst e
 ·have:=h.box;rw [h.map] at this;cases this
 ·have:=h.box;rw [h.tok] at this;cases this
 ·have:=h.map;rw [h.tok] at this;cases this
theorem zdo.self {σ:List zg} {id m t:Nat} {l:List (List UInt8)} (h:zdo σ id m t l):putTab σ id m t l = σ:=by
 unfold putTab
 rw [zbl h.tok,zbl h.box,zbl h.map]
theorem zee.self {σ:List zg} {id m t:Nat} {g:List zI} (h:zee σ id m t g):putLed σ id m t g = σ:=by
 unfold putLed
 rw [zbl h.map,zbl h.tok,zbl h.box]
theorem zdo.app {σ:List zg} {id m t:Nat} {l:List (List UInt8)} (h:zdo σ id m t l) (τ:List zg):zdo (σ ++ τ) id m t l:=⟨zd h.box,zd h.map,zd h.tok⟩
theorem zee.app {σ:List zg} {id m t:Nat} {g:List zI} (h:zee σ id m t g) (τ:List zg):zee (σ ++ τ) id m t g:=⟨zd h.box,zd h.map,zd h.tok⟩
theorem tabAt_new (σ:List zg) (l:List (List UInt8)) (τ:List zg):zdo (σ++(tabO σ.length l ++ τ)) (σ.length+1) σ.length (σ.length+2) l:=
 ⟨by rw [zx];rfl,by rw [zw];rfl,by rw [zx];rfl⟩
theorem ledAt_new (σ:List zg) (g:List zI) (τ:List zg):zee (σ++(ledO σ.length g ++ τ)) (σ.length+1) σ.length (σ.length+2) g:=
 ⟨by rw [zx];rfl,by rw [zw];rfl,by rw [zx];rfl⟩
theorem putTab_new (σ:List zg) (l l':List (List UInt8)) (τ:List zg):putTab (σ++(tabO σ.length l ++ τ)) (σ.length+1) σ.length (σ.length+2) l' = σ++(tabO σ.length l' ++ τ):=by
 unfold putTab
 rw [zO,zO,zJ];rfl
theorem putLed_new (σ:List zg) (g g':List zI) (τ:List zg):putLed (σ++(ledO σ.length g ++ τ)) (σ.length+1) σ.length (σ.length+2) g' = σ++(ledO σ.length g' ++ τ):=by
 unfold putLed
 rw [zJ,zO,zO];rfl
theorem putTab_len (σ:List zg) (id m t:Nat) (l:List (List UInt8)):(putTab σ id m t l).length = σ.length:=by simp [putTab]
theorem putLed_len (σ:List zg) (id m t:Nat) (g:List zI):(putLed σ id m t g).length = σ.length:=by simp [putLed]
theorem zuC {n:Nat} (l:List (List UInt8)):zvF n (.map (tabM l)):=by
 have key:∀ (l:List (List UInt8)) (i:Nat), ∀ e∈ztU l i,Low n e.1/\Low n e.2:=by
  intro l
  induction l with
  | nil=>intro i e h;cases h
  | cons x r ih=>
   intro i e h
   simp only [ztU,List.mem_cons] at h
   rcases h with rfl|h
   ·exact ⟨.d _,.d _⟩
   ·exact ih _ e h
 exact fun e he=>key l 0 e he
theorem zuD {n:Nat} (g:List zI):zvF n (.map (ztQ g)):=by
 intro e he
 simp only [ztQ,List.mem_map] at he
 obtain ⟨s,_,rfl⟩:=he
 exact ⟨.agg _ (by simp [zeH]),.d _⟩
theorem lowBox {n t m:Nat} {es:List (List D)} (ht:t<n) (hm:m<n):zvF n (.box [.own t es,.map m]):=by
 intro c hc
 simp only [List.mem_cons,List.not_mem_nil,or_false] at hc
 rcases hc with rfl|rfl
 ·exact .own _ _ ht
 ·exact .map _ hm
theorem zdo.lows {σ:List zg} {id m t:Nat} {l:List (List UInt8)} (h:zdo σ id m t l) (hl:zfv σ.length σ) (l':List (List UInt8)):zfv σ.length (putTab σ id m t l'):=
 ((hl.setO (show zvF _ (.tok 1 l'.length) from trivial)).setO (lowBox (zy h.tok) (zy h.map))).setO (zuC l')
theorem zee.lows {σ:List zg} {id m t:Nat} {g:List zI} (h:zee σ id m t g) (hl:zfv σ.length σ) (g':List zI):zfv σ.length (putLed σ id m t g'):=
 ((hl.setO (zuD g')).setO (show zvF _ (.tok 2 g'.length) from trivial)).setO (lowBox (zy h.tok) (zy h.map))
theorem low_tabO (n:Nat) (l:List (List UInt8)):∀ x∈tabO n l,zvF (n+(tabO n l).length) x:=by
 intro x hx
 simp only [List.mem_cons,List.not_mem_nil,or_false] at hx
 rcases hx with rfl|rfl|rfl
 ·exact zuC l
 ·exact lowBox (by simp) (by simp)
 ·trivial
theorem low_ledO (n:Nat) (g:List zI):∀ x∈ledO n g,zvF (n+(ledO n g).length) x:=by
 intro x hx
 simp only [List.mem_cons,List.not_mem_nil,or_false] at hx
 rcases hx with rfl|rfl|rfl
 ·exact zuD g
 ·exact lowBox (by simp) (by simp)
 ·trivial
theorem gq1 {P Q:Prop} (h:Q) (e:Hd Q->P:=by intro h;(repeat' first|simp -dsimp only [↓zft, ↓zaH, ↓zbG, ↓zfu, ↓zfo, ↓zfm, ↓zfp, ↓zfn, ↓zbL, ↓zbH, ↓zbM, ↓zbI, ↓zfq, ↓zbF, ↓zbN, ↓zbJ, ↓zbO, ↓zbK, ↓zfl, ↓zfr, ↓zbE, ↓zbP, ↓zfd, ↓zfc, ↓zfk,iN,bT,bF,eN, ↓zcQ, ↓unC, ↓zY, ↓zK, ↓zL, ↓zN, ↓zae, ↓zax, ↓zcK, ↓zaq, ↓zbh, ↓zR, ↓zp, ↓zm, ↓zbV, ↓zh, ↓zak, ↓zH, ↓zaR, ↓zaY, ↓ze, ↓zD, ↓zu, ↓zB, ↓zar, ↓zdk, ↓zdz, ↓zas, ↓zaD, ↓zaV, ↓zbf, ↓zbm, ↓zA, ↓zan, ↓zM, ↓zF, ↓zad,zdE,zbu,zbo,unA,zdC,bnd,zej,zag,zS,zeh,dm,dm1,zC,zah,zeF,zeE,zQ,Q0,Q1,Q2,Q3,Q4,Q5,zV,zx,zw,zO,zJ,Q6,Q7,Q8,Q9,Q10,Q11,Q12,Q13,Q14,Nat.reduceAdd,Q15,Int.reduceToNat,Q16,Q17,Q18,Q19,Q20,reduceIte,Q21,Q22,zG,rep,zZ,zeQ,toD,zal,Q23,Q24,Q25,Q26,Q27,Q28,Nat.reduceLeDiff,Q29,Nat.reduceSub,Q30,Q31,Q32,sc,Q33,Q34,Q35,Q36,Q37,Q26,Q38,Q39,ziR,ziO,ziL,ziS,zcX,ziP,ziM,ziQ,ziN,zcW,zcY,ziU,ziV,Bool.not_true,Bool.not_false,List.length_map]|with_reducible refine ziX ?_|fail);exact h.go):P:=e ⟨h⟩
theorem zvf {σ:List zg} {K:KT} (hK:K (.box (σ.length+1) 0) (σ++tabO σ.length [])):zr Tryz.prog zfi [] σ K:=by
 refine zr.weaken ?_
 refine zce zll.is rfl (fun s=>List.range' σ.length 2) fun hl _=>zll.goes ?_
 simp only [zlv,iN,bT,bF,eN]
 refine gq1 ?_
 refine zdf (σ' := σ) (os := [.map [],.box [.exact [],.map σ.length]]) rfl rfl hl ?_ (.box _ _ (by simp)) ?_
 ·intro x hx
  simp only [List.mem_cons,List.not_mem_nil,or_false] at hx
  rcases hx with rfl|rfl
  ·intro e he;cases he
  ·intro c hc
   simp only [List.mem_cons,List.not_mem_nil,or_false] at hc
   rcases hc with rfl|rfl
   ·exact .exact _
   ·exact .map _ (by simp)
 ·refine ⟨.box (σ.length+1) 0, σ++tabO σ.length [],?_,hK⟩
  refine .tokB (σ.length+1) 0 [.exact [],.map σ.length] [] 1 (by rw [zx];rfl) rfl (by simp) ?_
  have e:(σ++[zg.map [],zg.box [AV.exact [],AV.map σ.length]]).set (σ.length+1) (.box ([AV.exact [],AV.map σ.length].set 0 (.own (σ++[zg.map [],zg.box [AV.exact [],AV.map σ.length]]).length [])))++[.tok 1 0] = σ++tabO σ.length []:=by
   rw [zO];simp [tabO];rfl
  rw [List.length_nil,e]
  exact .refl _ _
theorem zto {σ:List zg} {K:KT} (hK:K (.box (σ.length+1) 0) (σ++ledO σ.length [])):zr Tryz.prog zeB [] σ K:=by
 refine zr.weaken ?_
 refine zce zkg.is rfl (fun s=>List.range' σ.length 2) fun hl _=>zkg.goes ?_
 simp only [zkx,iN,bT,bF,eN]
 refine gq1 ?_
 refine zdf (σ' := σ) (os := [.map [],.box [.exact [],.map σ.length]]) rfl rfl hl ?_ (.box _ _ (by simp)) ?_
 ·intro x hx
  simp only [List.mem_cons,List.not_mem_nil,or_false] at hx
  rcases hx with rfl|rfl
  ·intro e he;cases he
  ·intro c hc
   simp only [List.mem_cons,List.not_mem_nil,or_false] at hc
   rcases hc with rfl|rfl
   ·exact .exact _
   ·exact .map _ (by simp)
 ·refine ⟨.box (σ.length+1) 0, σ++ledO σ.length [],?_,hK⟩
  refine .tokB (σ.length+1) 0 [.exact [],.map σ.length] [] 2 (by rw [zx];rfl) rfl (by simp) ?_
  have e:(σ++[zg.map [],zg.box [AV.exact [],AV.map σ.length]]).set (σ.length+1) (.box ([AV.exact [],AV.map σ.length].set 0 (.own (σ++[zg.map [],zg.box [AV.exact [],AV.map σ.length]]).length [])))++[.tok 2 0] = σ++ledO σ.length []:=by
   rw [zO];simp [ledO];rfl
  rw [List.length_nil,e]
  exact .refl _ _
theorem gq2 {A P Q:Prop} (a:A) (h:Q) (e:A->Hd Q->P:=by intro a h;(repeat' first|simp -dsimp only [↓zft, ↓zaH, ↓zbG, ↓zfu, ↓zfo, ↓zfm, ↓zfp, ↓zfn, ↓zbL, ↓zbH, ↓zbM, ↓zbI, ↓zfq, ↓zbF, ↓zbN, ↓zbJ, ↓zbO, ↓zbK, ↓zfl, ↓zfr, ↓zbE, ↓zbP, ↓zfd, ↓zfc, ↓zfk,iN,bT,bF,eN, ↓zcQ, ↓unC, ↓zY, ↓zK, ↓zL, ↓zN, ↓zae, ↓zax, ↓zcK, ↓zaq, ↓zbh, ↓zR, ↓zp, ↓zm, ↓zbV, ↓zh, ↓zak, ↓zH, ↓zaR, ↓zaY, ↓ze, ↓zD, ↓zu, ↓zB, ↓zar, ↓zdk, ↓zdz, ↓zas, ↓zaD, ↓zaV, ↓zbf, ↓zbm, ↓zA, ↓zan, ↓zM, ↓zF, ↓zad,zdE,zbu,zbo,unA,zdC,bnd,zej,zag,zS,zeh,dm,dm1,zC,zah,zeF,zeE,zQ,Q0,Q1,Q2,Q3,Q4,Q5,zV,zx,zw,zO,zJ,Q6,Q7,Q8,Q9,Q10,Q11,Q12,Q13,Q14,Nat.reduceAdd,Q15,Int.reduceToNat,Q16,Q17,Q18,Q19,Q20,reduceIte,Q21,Q22,zG,rep,zZ,zeQ,toD,zal,Q23,Q24,Q25,Q26,Q27,Q28,Nat.reduceLeDiff,Q29,Nat.reduceSub,Q30,Q31,Q32,sc,Q33,Q34,Q35,Q36,Q37,Q26,Q38,Q39,ziR,ziO,ziL,ziS,zcX,ziP,ziM,ziQ,ziN,zcW,zcY,ziU,ziV,Bool.not_true,Bool.not_false,List.length_map,a]|with_reducible refine ziX ?_|fail);exact h.go):P:=e a ⟨h⟩
theorem zwr {σ:List zg} {id m t:Nat} {l:List (List UInt8)} (hT:zdo σ id m t l) {K:KT} (hK:K (.d (.bool false)) σ):zr Tryz.prog zcx [.box id 0] σ K:=by
 refine zgp zpk fun hl => ?_
 have hb:=hT.box
 simp only [zjt,iN,bT,bF,eN]
 refine gq2 hb ?_
 refine zT hl ?_
 exact hK
theorem zwB {σ:List zg} {id m t:Nat} {g:List zI} (hG:zee σ id m t g) {K:KT} (hK:K (.d (.bool false)) σ):zr Tryz.prog zck [.box id 0] σ K:=by
 refine zgp zoo fun hl => ?_
 have hb:=hG.box
 simp only [ziH,iN,bT,bF,eN]
 refine gq2 hb ?_
 refine zT hl ?_
 exact hK
theorem zf {A B:Prop} (a:A) (b:B):A/\B:=⟨a,b⟩
theorem gq3 {A P Q:Prop} (a:A) (h:Q) (e:A->Hd Q->P:=by intro a h;(repeat' first|simp -dsimp only [↓zft, ↓zaH, ↓zbG, ↓zfu, ↓zfo, ↓zfm, ↓zfp, ↓zfn, ↓zbL, ↓zbH, ↓zbM, ↓zbI, ↓zfq, ↓zbF, ↓zbN, ↓zbJ, ↓zbO, ↓zbK, ↓zfl, ↓zfr, ↓zbE, ↓zbP, ↓zfd, ↓zfc, ↓zfk,iN,bT,bF,eN, ↓zcQ, ↓unC, ↓zY, ↓zK, ↓zL, ↓zN, ↓zae, ↓zax, ↓zcK, ↓zaq, ↓zbh, ↓zR, ↓zp, ↓zm, ↓zbV, ↓zh, ↓zak, ↓zH, ↓zaR, ↓zaY, ↓ze, ↓zD, ↓zu, ↓zB, ↓zar, ↓zdk, ↓zdz, ↓zas, ↓zaD, ↓zaV, ↓zbf, ↓zbm, ↓zA, ↓zan, ↓zM, ↓zF, ↓zad,zdE,zbu,zbo,unA,zdC,bnd,zej,zag,zS,zeh,dm,dm1,zC,zah,zeF,zeE,zQ,Q0,Q1,Q2,Q3,Q4,Q5,zV,zx,zw,zO,zJ,Q6,Q7,Q8,Q9,Q10,Q11,Q12,Q13,Q14,Nat.reduceAdd,Q15,Int.reduceToNat,Q16,Q17,Q18,Q19,Q20,reduceIte,Q21,Q22,zG,rep,zZ,zeQ,toD,zal,Q23,Q24,Q25,Q26,Q27,Q28,Nat.reduceLeDiff,Q29,Nat.reduceSub,Q30,Q31,Q32,sc,Q33,Q34,Q35,Q36,Q37,Q26,Q38,Q39,ziR,ziO,ziL,ziS,zcX,ziP,ziM,ziQ,ziN,zcW,zcY,ziU,ziV,Bool.not_true,Bool.not_false,List.length_map,Bool.and_false,Bool.and_self,Bool.false_and,Bool.not_false,Bool.not_true,Bool.true_and,Int.toNat_natCast,Int.toNat_zero,List.drop_zero,List.length_map,List.length_nil,List.nil_append,List.take_length,Nat.sub_zero,Nat.zero_add,Option.isSome_none,Option.isSome_some,Option.map_none,Option.map_some,zaL,beq_self_eq_true,bne_self_eq_false,zlg,zeV,zga,zaV,mgetR,zbf,a]|with_reducible refine ziX ?_|fail);exact h.go):P:=e a ⟨h⟩
theorem zov {σ:List zg} {id m t:Nat} {l:List (List UInt8)} {b:List UInt8} (hT:zdo σ id m t l) {K:KT} (hK:K (.tup [.d (.int .i64 (zfN (zcv l b))),.d (.bool (zcv l b).isSome)]) σ) :
  zr Tryz.prog zbe [.box id 0,.d (.slice (bcs b))] σ K:=by
 refine zfP zpl fun hl => ?_
 have hb:=hT.box
 have hm:=hT.map
 have hf:=mfind_tab l b
 simp only [zju,iN,bT,bF,eN]
 refine gq1 ?_
 refine zwr hT ?_
 cases ho:zcv l b with
 | none=>
  rw [ho] at hf hK
  simp only [Option.map_none] at hf
  refine gq3 (zf hb (zf hm hf)) ?_
  refine zT hl ?_
  exact hK
 | some k=>
  rw [ho] at hf hK
  simp only [Option.map_some] at hf
  refine gq3 (zf hb (zf hm hf)) ?_
  refine zT hl ?_
  exact hK
theorem c_tLen {σ:List zg} {id m t:Nat} {l:List (List UInt8)} (hT:zdo σ id m t l) {K:KT} (hK:K (.d (.int .i64 l.length)) σ):zr Tryz.prog zgB [.box id 0] σ K:=by
 refine zgp zqz fun hl => ?_
 have hb:=hT.box
 simp only [zkw,iN,bT,bF,eN]
 refine gq1 ?_
 refine zwr hT ?_
 refine gq2 hb ?_
 refine zT hl ?_
 exact hK
theorem c_gLen {σ:List zg} {id m t:Nat} {g:List zI} (hG:zee σ id m t g) {K:KT} (hK:K (.d (.int .i64 g.length)) σ):zr Tryz.prog zfZ [.box id 0] σ K:=by
 refine zgp zpm fun hl => ?_
 have hb:=hG.box
 simp only [zjv,iN,bT,bF,eN]
 refine gq1 ?_
 refine zwB hG ?_
 refine gq2 hb ?_
 refine zT hl ?_
 exact hK
theorem gq4 {A P Q:Prop} (a:A) (h:Q) (e:A->Hd Q->P:=by intro a h;(repeat' first|simp -dsimp only [↓zft, ↓zaH, ↓zbG, ↓zfu, ↓zfo, ↓zfm, ↓zfp, ↓zfn, ↓zbL, ↓zbH, ↓zbM, ↓zbI, ↓zfq, ↓zbF, ↓zbN, ↓zbJ, ↓zbO, ↓zbK, ↓zfl, ↓zfr, ↓zbE, ↓zbP, ↓zfd, ↓zfc, ↓zfk,iN,bT,bF,eN, ↓zcQ, ↓unC, ↓zY, ↓zK, ↓zL, ↓zN, ↓zae, ↓zax, ↓zcK, ↓zaq, ↓zbh, ↓zR, ↓zp, ↓zm, ↓zbV, ↓zh, ↓zak, ↓zH, ↓zaR, ↓zaY, ↓ze, ↓zD, ↓zu, ↓zB, ↓zar, ↓zdk, ↓zdz, ↓zas, ↓zaD, ↓zaV, ↓zbf, ↓zbm, ↓zA, ↓zan, ↓zM, ↓zF, ↓zad,zdE,zbu,zbo,unA,zdC,bnd,zej,zag,zS,zeh,dm,dm1,zC,zah,zeF,zeE,zQ,Q0,Q1,Q2,Q3,Q4,Q5,zV,zx,zw,zO,zJ,Q6,Q7,Q8,Q9,Q10,Q11,Q12,Q13,Q14,Nat.reduceAdd,Q15,Int.reduceToNat,Q16,Q17,Q18,Q19,Q20,reduceIte,Q21,Q22,zG,rep,zZ,zeQ,toD,zal,Q23,Q24,Q25,Q26,Q27,Q28,Nat.reduceLeDiff,Q29,Nat.reduceSub,Q30,Q31,Q32,sc,Q33,Q34,Q35,Q36,Q37,Q26,Q38,Q39,ziR,ziO,ziL,ziS,zcX,ziP,ziM,ziQ,ziN,zcW,zcY,ziU,ziV,Bool.not_true,Bool.not_false,List.length_map,Bool.and_false,Bool.and_self,Bool.false_and,Bool.not_false,Bool.not_true,Bool.true_and,Int.toNat_natCast,Int.toNat_zero,List.drop_zero,List.length_map,List.length_nil,List.nil_append,List.take_length,Nat.sub_zero,Nat.zero_add,Option.isSome_none,Option.isSome_some,Option.map_none,Option.map_some,zaL,beq_self_eq_true,bne_self_eq_false,zlg,zcr,zes,zeV,zhp,zdX,zga,zaV,mgetR,zbf,zfN,opA,znQ,zhI,zch,a]|with_reducible refine ziX ?_|fail);exact h.go):P:=e a ⟨h⟩
theorem c_gSigned {σ:List zg} {id m t:Nat} {g:List zI} {s:zI} (hG:zee σ id m t g) {K:KT} (hK:K (.d (.bool (decide (s∈g)))) σ) :
  zr Tryz.prog zen [.box id 0,.agg [.d (.int .i64 s.key),.d (.int .i64 s.dig)]] σ K:=by
 refine zfP zmh fun hl => ?_
 have hb:∀ τ,(σ ++ τ)[id]? = _:=fun τ=>zd hG.box
 have hm:∀ τ,(σ ++ τ)[m]? = _:=fun τ=>zd hG.map
 simp only [zhe,iN,bT,bF,eN]
 refine gq1 ?_
 refine zwB (hG.app _) ?_
 by_cases hs:s∈g
 ·obtain ⟨k,hf⟩:=zoT hs
  rw [decide_eq_true hs] at hK
  refine gq4 (zf hb (zf hm hf)) ?_
  refine zT hl ?_
  exact hK
 ·have hf:=zqR hs
  rw [decide_eq_false hs] at hK
  refine gq4 (zf hb (zf hm hf)) ?_
  refine zT hl ?_
  exact hK
theorem c_tSum {σ:List zg} {id m t:Nat} {l:List (List UInt8)} {b:List UInt8} (hT:zdo σ id m t l) (hbl:b.length<=1073741824) (hll:l.length<=1048576) {K:KT}
  (hK:K (.d (.int .i64 (zdy l b))) (putTab σ id m t (zeJ l b))):zr Tryz.prog zeA [.box id 0,.d (.slice (bcs b))] σ K:=by
 refine zfP zqy fun hl => ?_
 have hb:=hT.box
 have hm:=hT.map
 have ht:=hT.tok
 have hf:=mfind_tab l b
 obtain ⟨n1,n2,n3⟩:=hT.ne
 have hlen:(zgK l).length=l.length:=List.length_map ..
 simp only [zkv,iN,bT,bF,eN]
 refine gq1 ?_
 refine zwr hT ?_
 cases ho:zcv l b with
 | some k=>
  rw [ho] at hf
  simp only [zdy,zeJ,ho] at hK
  rw [hT.self] at hK
  simp only [Option.map_some] at hf
  refine gq3 (zf hb (zf hm hf)) ?_
  refine zT hl ?_
  exact hK
 | none=>
  rw [ho] at hf
  simp only [zdy,zeJ,ho] at hK
  simp only [Option.map_none] at hf
  by_cases hfull:l.length≥1048576
  ·rw [if_pos hfull,if_pos hfull,hT.self] at hK
   have hd:decide ((l.length:Int)≥1048576)=true:=by simp;omega
   refine gq3 (zf hb (zf hm (zf hf (zf hlen hd)))) ?_
   refine zT hl ?_
   exact hK
  ·rw [if_neg hfull,if_neg hfull] at hK
   have hd:decide ((l.length:Int)≥1048576)=false:=by simp;omega
   have g1:∀ τ,(σ ++ τ)[id]? = some (.box [.own t (zgK l),.map m]):=fun τ=>zd hb
   have g2:∀ τ,(σ ++ τ)[t]? = some (.tok 1 l.length):=fun τ=>zd ht
   have s1:∀ X τ,(σ ++ τ).set t X = σ.set t X ++ τ:=fun X τ=>zbZ ht
   have hb':∀ X,(σ.set t X)[id]? = some (.box [.own t (zgK l),.map m]):=fun X=>by rw [List.getElem?_set_ne (Ne.symm n2)];exact hb
   have g3:∀ X τ,(σ.set t X ++ τ)[id]? = some (.box [.own t (zgK l),.map m]):=fun X τ=>zd (hb' X)
   have s2:∀ X Y τ,(σ.set t X ++ τ).set id Y=(σ.set t X).set id Y ++ τ:=fun X Y τ=>zbZ (hb' X)
   have g4:∀ X Y τ,((σ.set t X).set id Y ++ τ)[id]? = some Y:=fun X Y τ=>zd (zbr (hb' X))
   have hm':∀ X Y,((σ.set t X).set id Y)[m]? = some (.map (tabM l)):=fun X Y=>by rw [List.getElem?_set_ne n1,List.getElem?_set_ne (Ne.symm n3)];exact hm
   have g5:∀ X Y τ,((σ.set t X).set id Y ++ τ)[m]? = some (.map (tabM l)):=fun X Y τ=>zd (hm' X Y)
   have s3:∀ X Y Z τ,((σ.set t X).set id Y ++ τ).set m Z=((σ.set t X).set id Y).set m Z ++ τ:=fun X Y Z τ=>zbZ (hm' X Y)
   refine gq3 (zf hb (zf hm (zf hf (zf hlen hd)))) ?_
   refine zwC zgd (by rw [zaL];omega) ?_
   refine gq3 (zf g1 (zf g2 (zf s1 (zf g3 (zf s2 (zf g4 (zf g5 (zf s3 (zf hf hlen))))))))) ?_
   refine ⟨hb.symm,by simp,by omega,?_⟩
   have e:putTab σ id m t (l++[b])=((σ.set t (zg.tok 1 (l.length+1))).set id (zg.box [AV.own t (zgK l++[[D.slice (bcs b)]]),AV.map m])).set m (zg.map (tabM l++[(AV.d (D.str b),AV.d (D.int IntKind.i64 ((l.length+1:Nat):Int)))])):=by
    simp [putTab,tabM_add,zgK]
    rw [← tabM_add];simp
   rw [← e]
   exact zef (putTab_len ..) (by simp [zeH,dmT,dm,dm1,zcH]) (hT.lows hl _) hK
end Go.Proofs.YtfgbofkdhfjegaaGreat
