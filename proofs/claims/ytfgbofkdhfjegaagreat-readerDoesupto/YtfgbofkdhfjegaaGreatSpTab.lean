/- Byte strings and their numbers; what was signed. No program in sight. -/
import Derived.Test.YtfgbofkdhfjegaaGreatCl1
import Derived.Test.YtfgbofkdhfjegaaGreatAwFrz
set_option linter.all false
namespace Go.AW
def zhP:List (List UInt8)->List UInt8->Nat->Option Nat
 | [],_,_=>none
 | x::r,b,i=>if b=x then some i else zhP r b (i+1)
def zdf (l:List (List UInt8)) (b:List UInt8):Option Nat:=zhP l b 0
def zjl:Option Nat->Int
 | some i=>((i+1:Nat):Int)
 | none => 0
def zdX (l:List (List UInt8)) (b:List UInt8):Int:=match zdf l b with
 | some i=>((i+1:Nat):Int)
 | none=>if l.length≥1048576 then 0 else ((l.length+1:Nat):Int)
def zfD (l:List (List UInt8)) (b:List UInt8):List (List UInt8):=match zdf l b with
 | some _=>l
 | none=>if l.length≥1048576 then l else l++[b]
abbrev zhI (l:List (List UInt8)):List (List D):=l.map fun b => [D.slice (bcs b)]
def zwi:List (List UInt8)->Nat->List (AV × AV)
 | [],_ => []
 | x::r,i=>(.d (.str x),.d (.int .i64 ((i+1:Nat):Int)))::zwi r (i+1)
def tabM (l:List (List UInt8)):List (AV × AV):=zwi l 0
theorem zwT (b:List UInt8):∀ (l:List (List UInt8)) (i:Nat),zqD .str (.d (.str b)) (zwi l i) i=some ((zhP l b i).map fun k=>(k,.d (.int .i64 ((k+1:Nat):Int))))
 | [],_=>rfl
 | x::r,i=>by
  simp only [zwi,zqD,zhQ,zhP]
  by_cases h:b=x
  ·simp [h]
  ·have:(b==x)=false:=by simpa using h
   simp only [this,if_neg h]
   exact zwT b r (i+1)
theorem mfind_tab (l:List (List UInt8)) (b:List UInt8):zqD .str (.d (.str b)) (tabM l) 0=some ((zdf l b).map fun k=>(k,.d (.int .i64 ((k+1:Nat):Int)))):=zwT b l 0
theorem tabMA_add (x:List UInt8):∀ (l:List (List UInt8)) (i:Nat),zwi (l++[x]) i=zwi l i++[(.d (.str x),.d (.int .i64 ((i+l.length+1:Nat):Int)))]
 | [],i=>by simp [zwi]
 | y::r,i=>by
  simp only [List.cons_append,zwi,tabMA_add x r (i+1),List.length_cons]
  rw [show i+1+r.length+1=i+(r.length+1)+1 by omega]
theorem tabM_add (l:List (List UInt8)) (x:List UInt8):tabM l++[(.d (.str x),.d (.int .i64 ((l.length+1:Nat):Int)))]=tabM (l++[x]):=by
 unfold tabM
 rw [tabMA_add];simp
theorem lookAt_lt {b:List UInt8}:∀ {l:List (List UInt8)} {i k:Nat},zhP l b i=some k->i<=k/\k<i+l.length/\l[k-i]? = some b
 | [],_,_,h=>by simp [zhP] at h
 | x::r,i,k,h=>by
  simp only [zhP] at h
  split at h
  ·rename_i e
   cases h;subst e;simp
  ·obtain ⟨h1,h2,h3⟩:=lookAt_lt h
   refine ⟨by omega,by simp;omega,?_⟩
   obtain ⟨m,hm⟩:∃ m,k-i=m+1:=⟨k-i-1,by omega⟩
   rw [hm,List.getElem?_cons_succ]
   rw [show k-(i+1)=m by omega] at h3
   exact h3
theorem zmc {l:List (List UInt8)} {b:List UInt8} {k:Nat} (h:zdf l b=some k):k<l.length/\l[k]? = some b:=by
 have:=lookAt_lt h
 simpa using this.2
theorem zkY {b:List UInt8} {m:List (List UInt8)}:∀ {l:List (List UInt8)} {i:Nat},zhP (l++m) b i=match zhP l b i with|some k=>some k|none=>zhP m b (i+l.length)
 | [],i=>by simp [zhP]
 | x::r,i=>by
  simp only [List.cons_append,zhP,List.length_cons]
  split
  ·rfl
  ·rw [zkY,show i+1+r.length=i+(r.length+1) by omega]
theorem look_next {l:List (List UInt8)} {b x:List UInt8} {k:Nat} (h:l[k]? = some x) (h0:zdf (l.take k) b=none) (hx:(x==b)=false):zdf (l.take (k+1)) b=none:=by
 have e:¬ b=x:=fun e=>by subst e;simp at hx
 rw [List.take_add_one,h]
 unfold zdf at h0 ⊢
 rw [zkY,h0]
 simp [zhP,e]
theorem look_hit {l:List (List UInt8)} {b x:List UInt8} {k:Nat} (h:l[k]? = some x) (h0:zdf (l.take k) b=none) (hx:(x==b)=true):zdf l b=some k:=by
 have e:x=b:=by simpa using hx
 subst e
 obtain ⟨hk,hh⟩:=List.getElem?_eq_some_iff.1 h
 have e2:l=l.take k++(x::l.drop (k+1)):=by rw [← hh,List.getElem_cons_drop,List.take_append_drop]
 rw [e2]
 unfold zdf at h0 ⊢
 rw [zkY,h0]
 simp [zhP];omega
theorem zwY {l:List (List UInt8)} {b:List UInt8} (h:b ∉ l):zdf l b=none:=by
 cases e:zdf l b with
 | none=>rfl
 | some k=>exact absurd (List.mem_of_getElem? (zmc e).2) h
theorem zyw {l:List (List UInt8)} {b:List UInt8} (h:zdf l b=none):b ∉ l:=by
 have key:∀ (l:List (List UInt8)) (i:Nat),zhP l b i=none->b ∉ l:=by
  intro l
  induction l with
  | nil=>intro i _;simp
  | cons x r ih=>
   intro i h
   simp only [zhP] at h
   split at h
   ·cases h
   ·rename_i hne
    simp only [List.mem_cons,not_or]
    exact ⟨hne,ih _ h⟩
 exact key l 0 h
theorem look_new (l:List (List UInt8)) (b:List UInt8) (h:zdf l b=none):zdf (l++[b]) b=some l.length:=by
 unfold zdf at h ⊢
 rw [zkY,h]
 simp [zhP]
theorem look_more {l m:List (List UInt8)} {b:List UInt8} {k:Nat} (h:zdf l b=some k):zdf (l++m) b=some k:=by
 unfold zdf at h ⊢
 rw [zkY,h]
abbrev zrA (l:List zR):List (List D):=zaI l
def zwf (l:List zR):List (AV × AV):=l.map fun s=>(.agg [.d (.int .i64 s.key),.d (.int .i64 s.dig)],.d (.bool true))
def ledAt:List zR->zR->Nat->Option Nat
 | [],_,_=>none
 | x::r,s,i=>if s=x then some i else ledAt r s (i+1)
theorem sign_keyEq (s x:zR):zhQ (.ints 2) (.agg [.d (.int .i64 s.key),.d (.int .i64 s.dig)]) (.agg [.d (.int .i64 x.key),.d (.int .i64 x.dig)])=some (decide (s=x)):=by
 have e:s=x↔s.key=x.key/\s.dig=x.dig:=by cases s;cases x;simp
 by_cases h1:s.key=x.key
 ·by_cases h2:s.dig=x.dig
  ·rw [decide_eq_true (e.2 ⟨h1,h2⟩)]
   simp [zhQ,zea,h1,h2]
  ·rw [decide_eq_false (fun h=>h2 (e.1 h).2)]
   have h2':(s.dig==x.dig)=false:=by simpa using h2
   simp [zhQ,zea,h1,h2']
 ·rw [decide_eq_false (fun h=>h1 (e.1 h).1)]
  have h1':(s.key==x.key)=false:=by simpa using h1
  simp [zhQ,zea,h1']
  try exact fun h=>absurd h h1
theorem zsd (s:zR):∀ (l:List zR) (i:Nat),zqD (.ints 2) (.agg [.d (.int .i64 s.key),.d (.int .i64 s.dig)]) (zwf l) i=some ((ledAt l s i).map fun k=>(k,.d (.bool true)))
 | [],_=>rfl
 | x::r,i=>by
  have ih:=zsd s r (i+1)
  simp only [zwf] at ih
  simp only [zwf,List.map_cons,zqD,sign_keyEq,ledAt]
  by_cases h:s=x
  ·simp [h]
  ·rw [decide_eq_false h,if_neg h]
   exact ih
theorem zsh {s:zR}:∀ {l:List zR} {i:Nat},ledAt l s i=none↔s ∉ l
 | [],i=>by simp [ledAt]
 | x::r,i=>by
  simp only [ledAt,List.mem_cons,not_or]
  by_cases h:s=x
  ·simp [h]
  ·rw [if_neg h,zsh];simp [h]
theorem zqC {l:List zR} {s:zR} (h:s∈l):∃ k,zqD (.ints 2) (.agg [.d (.int .i64 s.key),.d (.int .i64 s.dig)]) (zwf l) 0=some (some (k,.d (.bool true))):=by
 rw [zsd]
 cases e:ledAt l s 0 with
 | none=>exact absurd h (zsh.1 e)
 | some k=>exact ⟨k,rfl⟩
theorem zsM {l:List zR} {s:zR} (h:s ∉ l):zqD (.ints 2) (.agg [.d (.int .i64 s.key),.d (.int .i64 s.dig)]) (zwf l) 0=some none:=by
 rw [zsd,zsh.2 h];rfl
theorem ledM_add (l:List zR) (s:zR):zwf l++[(.agg [.d (.int .i64 s.key),.d (.int .i64 s.dig)],.d (.bool true))]=zwf (l++[s]):=by simp [zwf]
def zmV (l:List zR) (s:zR):List zR:=if s∈l then l else l++[s]
def zfb (k d:Int):Int:=if k<0∨k≥21 then 20 else if d<1 then 1 else 0
theorem zeZ {n:Nat} {σ' τ:List zh} {K:KT} {l:List AV} (hn : σ'.length=n) (h1:Low n (dmT (zcJ l))) (hl:zgh n σ') (h:K (dmT (zcJ l)) σ'):Ends n K (some l) (σ' ++ τ):=by
 subst hn
 unfold Ends
 rw [zjZ]
 exact ⟨h1,hl,h⟩
theorem zhT {n:Nat} {σ':List zh} {K:KT} {l:List AV} (hn : σ'.length=n) (h1:Low n (dmT (zcJ l))) (hl:zgh n σ') (h:K (dmT (zcJ l)) σ'):Ends n K (some l) σ':=by
 have:=zeZ (τ := []) hn h1 hl h
 simpa using this
theorem zxo {σ τ:List zh} {id t:Nat} {es:List (List D)} {X:zh} {K:KT} {l:List AV} (hT : σ[id]? = some X) (h1:Low σ.length (dmT (zcJ l))) (hl:zgh σ.length σ)
  (h:K (dmT (zcJ l)) (σ.set id (.box [.d (.slice es)]))):EndsW σ.length K (some l) (σ.set id (.box [.own t es]) ++ τ):=by
 refine ⟨_,.dataB id 0 [.own t es] (.own t es) es (zf (zbJ hT)) rfl rfl (.refl _ _),?_⟩
 rw [zcg (zbJ hT),List.set_set]
 refine zjh h1 hl ?_ h
 intro c hc
 simp only [List.set_cons_zero,List.mem_cons,List.not_mem_nil,or_false] at hc
 subst hc;exact .d _
end Go.AW

/- Contracts: tables of byte strings and ledgers of signatures, as the program zyy them. -/
set_option maxRecDepth 100000
namespace Go.Proofs.YtfgbofkdhfjegaaGreat
open Go.AW
structure zdH (σ:List zh) (id m t:Nat) (l:List (List UInt8)):Prop where
 box : σ[id]? = some (.box [.own t (zhI l),.map m])
 map : σ[m]? = some (.map (tabM l))
 tok : σ[t]? = some (.tok 1 l.length)
structure zeY (σ:List zh) (id m t:Nat) (g:List zR):Prop where
 box : σ[id]? = some (.box [.own t (zrA g),.map m])
 map : σ[m]? = some (.map (zwf g))
 tok : σ[t]? = some (.tok 2 g.length)
def putTab (σ:List zh) (id m t:Nat) (l:List (List UInt8)):List zh:=((σ.set t (.tok 1 l.length)).set id (.box [.own t (zhI l),.map m])).set m (.map (tabM l))
def putLed (σ:List zh) (id m t:Nat) (g:List zR):List zh:=((σ.set m (.map (zwf g))).set t (.tok 2 g.length)).set id (.box [.own t (zrA g),.map m])
abbrev tabO (n:Nat) (l:List (List UInt8)):List zh := [.map (tabM l),.box [.own (n+2) (zhI l),.map n],.tok 1 l.length]
abbrev ledO (n:Nat) (g:List zR):List zh := [.map (zwf g),.box [.own (n+2) (zrA g),.map n],.tok 2 g.length]
theorem zdH.ne {σ:List zh} {id m t:Nat} {l:List (List UInt8)} (h:zdH σ id m t l):id≠m/\id≠t/\m≠t:=by
 refine ⟨fun e => ?_,fun e => ?_,fun e => ?_⟩<;>subst e
 ·have:=h.box;rw [h.map] at this;cases this
 ·have:=h.box;rw [h.tok] at this;cases this
 ·have:=h.map;rw [h.tok] at this;cases this
theorem zeY.ne {σ:List zh} {id m t:Nat} {g:List zR} (h:zeY σ id m t g):id≠m/\id≠t/\m≠t:=by
 refine ⟨fun e => ?_,fun e => ?_,fun e => ?_⟩<;>subst e
 ·have:=h.box;rw [h.map] at this;cases this
 ·have:=h.box;rw [h.tok] at this;cases this
 ·have:=h.map;rw [h.tok] at this;cases this
theorem zdH.self {σ:List zh} {id m t:Nat} {l:List (List UInt8)} (h:zdH σ id m t l):putTab σ id m t l = σ:=by
 unfold putTab
 rw [zbF h.tok,zbF h.box,zbF h.map]
theorem zeY.self {σ:List zh} {id m t:Nat} {g:List zR} (h:zeY σ id m t g):putLed σ id m t g = σ:=by
 unfold putLed
 rw [zbF h.map,zbF h.tok,zbF h.box]
theorem zdH.app {σ:List zh} {id m t:Nat} {l:List (List UInt8)} (h:zdH σ id m t l) (τ:List zh):zdH (σ ++ τ) id m t l:=⟨zf h.box,zf h.map,zf h.tok⟩
theorem zeY.app {σ:List zh} {id m t:Nat} {g:List zR} (h:zeY σ id m t g) (τ:List zh):zeY (σ ++ τ) id m t g:=⟨zf h.box,zf h.map,zf h.tok⟩
theorem tabAt_new (σ:List zh) (l:List (List UInt8)) (τ:List zh):zdH (σ++(tabO σ.length l ++ τ)) (σ.length+1) σ.length (σ.length+2) l:=
 ⟨by rw [zx];rfl,by rw [zy];rfl,by rw [zx];rfl⟩
theorem ledAt_new (σ:List zh) (g:List zR) (τ:List zh):zeY (σ++(ledO σ.length g ++ τ)) (σ.length+1) σ.length (σ.length+2) g:=
 ⟨by rw [zx];rfl,by rw [zy];rfl,by rw [zx];rfl⟩
theorem putTab_new (σ:List zh) (l l':List (List UInt8)) (τ:List zh):putTab (σ++(tabO σ.length l ++ τ)) (σ.length+1) σ.length (σ.length+2) l' = σ++(tabO σ.length l' ++ τ):=by
 unfold putTab
 rw [zT,zT,zL];rfl
theorem putLed_new (σ:List zh) (g g':List zR) (τ:List zh):putLed (σ++(ledO σ.length g ++ τ)) (σ.length+1) σ.length (σ.length+2) g' = σ++(ledO σ.length g' ++ τ):=by
 unfold putLed
 rw [zL,zT,zT];rfl
theorem putTab_len (σ:List zh) (id m t:Nat) (l:List (List UInt8)):(putTab σ id m t l).length = σ.length:=by simp [putTab]
theorem putLed_len (σ:List zh) (id m t:Nat) (g:List zR):(putLed σ id m t g).length = σ.length:=by simp [putLed]
theorem zwW {n:Nat} (l:List (List UInt8)):zyf n (.map (tabM l)):=by
 have key:∀ (l:List (List UInt8)) (i:Nat), ∀ e∈zwi l i,Low n e.1/\Low n e.2:=by
  intro l
  induction l with
  | nil=>intro i e h;cases h
  | cons x r ih=>
   intro i e h
   simp only [zwi,List.mem_cons] at h
   rcases h with rfl|h
   ·exact ⟨.d _,.d _⟩
   ·exact ih _ e h
 exact fun e he=>key l 0 e he
theorem zwX {n:Nat} (g:List zR):zyf n (.map (zwf g)):=by
 intro e he
 simp only [zwf,List.mem_map] at he
 obtain ⟨s,_,rfl⟩:=he
 exact ⟨.agg _ (by simp [zfz]),.d _⟩
theorem lowBox {n t m:Nat} {es:List (List D)} (ht:t<n) (hm:m<n):zyf n (.box [.own t es,.map m]):=by
 intro c hc
 simp only [List.mem_cons,List.not_mem_nil,or_false] at hc
 rcases hc with rfl|rfl
 ·exact .own _ _ ht
 ·exact .map _ hm
theorem zdH.lows {σ:List zh} {id m t:Nat} {l:List (List UInt8)} (h:zdH σ id m t l) (hl:zgh σ.length σ) (l':List (List UInt8)):zgh σ.length (putTab σ id m t l'):=
 ((hl.setO (show zyf _ (.tok 1 l'.length) from trivial)).setO (lowBox (zB h.tok) (zB h.map))).setO (zwW l')
theorem zeY.lows {σ:List zh} {id m t:Nat} {g:List zR} (h:zeY σ id m t g) (hl:zgh σ.length σ) (g':List zR):zgh σ.length (putLed σ id m t g'):=
 ((hl.setO (zwX g')).setO (show zyf _ (.tok 2 g'.length) from trivial)).setO (lowBox (zB h.tok) (zB h.map))
theorem low_tabO (n:Nat) (l:List (List UInt8)):∀ x∈tabO n l,zyf (n+(tabO n l).length) x:=by
 intro x hx
 simp only [List.mem_cons,List.not_mem_nil,or_false] at hx
 rcases hx with rfl|rfl|rfl
 ·exact zwW l
 ·exact lowBox (by simp) (by simp)
 ·trivial
theorem low_ledO (n:Nat) (g:List zR):∀ x∈ledO n g,zyf (n+(ledO n g).length) x:=by
 intro x hx
 simp only [List.mem_cons,List.not_mem_nil,or_false] at hx
 rcases hx with rfl|rfl|rfl
 ·exact zwX g
 ·exact lowBox (by simp) (by simp)
 ·trivial
theorem gq1 {P Q:Prop} (h:Q) (e:Hd Q->P:=by intro h;(repeat' first|simp -dsimp only [↓zeU, ↓zaA, ↓zbp, ↓zeV, ↓zeO, ↓zeM, ↓zeP, ↓zeN, ↓zbu, ↓zbq, ↓zbv, ↓zbr, ↓zeQ, ↓zbo, ↓zbw, ↓zbs, ↓zbx, ↓zbt, ↓zeL, ↓zeT, ↓zbn, ↓zby, ↓zeG, ↓zeF, ↓zeK,iN,bT,bF,eN, ↓zco, ↓unC, ↓zX, ↓zM, ↓zN, ↓zQ, ↓zZ, ↓zai, ↓zcv, ↓zaf, ↓zaS, ↓zV, ↓zl, ↓zm, ↓zbg, ↓ze, ↓zae, ↓zC, ↓zaM, ↓zaT, ↓zd, ↓zA, ↓zr, ↓zD, ↓zao, ↓zcY, ↓zdn, ↓zap, ↓zaw, ↓zaN, ↓zaZ, ↓zbk, ↓zw, ↓zaj, ↓zO, ↓zE, ↓zY,zdr,zbm,zbl,unA,zdo,bnd,zdL,zab,zS,zdI,dm,dm1,zG,zak,zdZ,zdY,zH,Q0,Q1,Q2,Q3,Q4,Q5,zW,zx,zy,zT,zL,Q6,Q7,Q8,Q9,Q10,Q11,Q12,Q13,Q14,Nat.reduceAdd,Q15,Int.reduceToNat,Q16,Q17,Q18,Q19,Q20,reduceIte,Q21,Q22,zF,rep,zaa,zeC,toD,zag,Q23,Q24,Q25,Q26,Q27,Q28,Nat.reduceLeDiff,Q29,Nat.reduceSub,Q30,Q31,Q32,sc,Q33,Q34,Q35,Q36,Q37,Q26,Q38,Q39,zis,zio,zil,zit,zcN,ziq,zim,zir,zin,zcM,zcO,ziu,ziv,Bool.not_true,Bool.not_false,List.length_map]|with_reducible refine zix ?_|fail);exact h.go):P:=e ⟨h⟩
theorem zxB {σ:List zh} {K:KT} (hK:K (.box (σ.length+1) 0) (σ++tabO σ.length [])):zp Tryz.prog zge [] σ K:=by
 refine zp.weaken ?_
 refine zcl zmx.is rfl (fun s=>List.range' σ.length 2) fun hl _=>zmx.goes ?_
 simp only [zmQ,iN,bT,bF,eN]
 refine gq1 ?_
 refine zdw (σ' := σ) (os := [.map [],.box [.exact [],.map σ.length]]) rfl rfl hl ?_ (.box _ _ (by simp)) ?_
 ·intro x hx
  simp only [List.mem_cons,List.not_mem_nil,or_false] at hx
  rcases hx with rfl|rfl
  ·intro e he;cases he
  ·intro c hc
   simp only [List.mem_cons,List.not_mem_nil,or_false] at hc
   rcases hc with rfl|rfl
   ·exact .exact _
   ·exact .map _ (by simp)
 ·refine ⟨.box (σ.length+1) 0, σ++tabO σ.length [],?_,hK⟩
  refine .tokB (σ.length+1) 0 [.exact [],.map σ.length] [] 1 (by rw [zx];rfl) rfl (by simp) ?_
  have e:(σ++[zh.map [],zh.box [AV.exact [],AV.map σ.length]]).set (σ.length+1) (.box ([AV.exact [],AV.map σ.length].set 0 (.own (σ++[zh.map [],zh.box [AV.exact [],AV.map σ.length]]).length [])))++[.tok 1 0] = σ++tabO σ.length []:=by
   rw [zT];simp [tabO];rfl
  rw [List.length_nil,e]
  exact .refl _ _
theorem zvw {σ:List zh} {K:KT} (hK:K (.box (σ.length+1) 0) (σ++ledO σ.length [])):zp Tryz.prog zfw [] σ K:=by
 refine zp.weaken ?_
 refine zcl zlm.is rfl (fun s=>List.range' σ.length 2) fun hl _=>zlm.goes ?_
 simp only [zlG,iN,bT,bF,eN]
 refine gq1 ?_
 refine zdw (σ' := σ) (os := [.map [],.box [.exact [],.map σ.length]]) rfl rfl hl ?_ (.box _ _ (by simp)) ?_
 ·intro x hx
  simp only [List.mem_cons,List.not_mem_nil,or_false] at hx
  rcases hx with rfl|rfl
  ·intro e he;cases he
  ·intro c hc
   simp only [List.mem_cons,List.not_mem_nil,or_false] at hc
   rcases hc with rfl|rfl
   ·exact .exact _
   ·exact .map _ (by simp)
 ·refine ⟨.box (σ.length+1) 0, σ++ledO σ.length [],?_,hK⟩
  refine .tokB (σ.length+1) 0 [.exact [],.map σ.length] [] 2 (by rw [zx];rfl) rfl (by simp) ?_
  have e:(σ++[zh.map [],zh.box [AV.exact [],AV.map σ.length]]).set (σ.length+1) (.box ([AV.exact [],AV.map σ.length].set 0 (.own (σ++[zh.map [],zh.box [AV.exact [],AV.map σ.length]]).length [])))++[.tok 2 0] = σ++ledO σ.length []:=by
   rw [zT];simp [ledO];rfl
  rw [List.length_nil,e]
  exact .refl _ _
theorem gq2 {A P Q:Prop} (a:A) (h:Q) (e:A->Hd Q->P:=by intro a h;(repeat' first|simp -dsimp only [↓zeU, ↓zaA, ↓zbp, ↓zeV, ↓zeO, ↓zeM, ↓zeP, ↓zeN, ↓zbu, ↓zbq, ↓zbv, ↓zbr, ↓zeQ, ↓zbo, ↓zbw, ↓zbs, ↓zbx, ↓zbt, ↓zeL, ↓zeT, ↓zbn, ↓zby, ↓zeG, ↓zeF, ↓zeK,iN,bT,bF,eN, ↓zco, ↓unC, ↓zX, ↓zM, ↓zN, ↓zQ, ↓zZ, ↓zai, ↓zcv, ↓zaf, ↓zaS, ↓zV, ↓zl, ↓zm, ↓zbg, ↓ze, ↓zae, ↓zC, ↓zaM, ↓zaT, ↓zd, ↓zA, ↓zr, ↓zD, ↓zao, ↓zcY, ↓zdn, ↓zap, ↓zaw, ↓zaN, ↓zaZ, ↓zbk, ↓zw, ↓zaj, ↓zO, ↓zE, ↓zY,zdr,zbm,zbl,unA,zdo,bnd,zdL,zab,zS,zdI,dm,dm1,zG,zak,zdZ,zdY,zH,Q0,Q1,Q2,Q3,Q4,Q5,zW,zx,zy,zT,zL,Q6,Q7,Q8,Q9,Q10,Q11,Q12,Q13,Q14,Nat.reduceAdd,Q15,Int.reduceToNat,Q16,Q17,Q18,Q19,Q20,reduceIte,Q21,Q22,zF,rep,zaa,zeC,toD,zag,Q23,Q24,Q25,Q26,Q27,Q28,Nat.reduceLeDiff,Q29,Nat.reduceSub,Q30,Q31,Q32,sc,Q33,Q34,Q35,Q36,Q37,Q26,Q38,Q39,zis,zio,zil,zit,zcN,ziq,zim,zir,zin,zcM,zcO,ziu,ziv,Bool.not_true,Bool.not_false,List.length_map,a]|with_reducible refine zix ?_|fail);exact h.go):P:=e a ⟨h⟩
theorem zyS {σ:List zh} {id m t:Nat} {l:List (List UInt8)} (hT:zdH σ id m t l) {K:KT} (hK:K (.d (.bool false)) σ):zp Tryz.prog zcI [.box id 0] σ K:=by
 refine zfc zqT fun hl => ?_
 have hb:=hT.box
 simp only [zkv,iN,bT,bF,eN]
 refine gq2 hb ?_
 refine zI hl ?_
 exact hK
theorem zzk {σ:List zh} {id m t:Nat} {g:List zR} (hG:zeY σ id m t g) {K:KT} (hK:K (.d (.bool false)) σ):zp Tryz.prog zct [.box id 0] σ K:=by
 refine zfc zpV fun hl => ?_
 have hb:=hG.box
 simp only [zjQ,iN,bT,bF,eN]
 refine gq2 hb ?_
 refine zI hl ?_
 exact hK
theorem zg {A B:Prop} (a:A) (b:B):A/\B:=⟨a,b⟩
theorem gq3 {A P Q:Prop} (a:A) (h:Q) (e:A->Hd Q->P:=by intro a h;(repeat' first|simp -dsimp only [↓zeU, ↓zaA, ↓zbp, ↓zeV, ↓zeO, ↓zeM, ↓zeP, ↓zeN, ↓zbu, ↓zbq, ↓zbv, ↓zbr, ↓zeQ, ↓zbo, ↓zbw, ↓zbs, ↓zbx, ↓zbt, ↓zeL, ↓zeT, ↓zbn, ↓zby, ↓zeG, ↓zeF, ↓zeK,iN,bT,bF,eN, ↓zco, ↓unC, ↓zX, ↓zM, ↓zN, ↓zQ, ↓zZ, ↓zai, ↓zcv, ↓zaf, ↓zaS, ↓zV, ↓zl, ↓zm, ↓zbg, ↓ze, ↓zae, ↓zC, ↓zaM, ↓zaT, ↓zd, ↓zA, ↓zr, ↓zD, ↓zao, ↓zcY, ↓zdn, ↓zap, ↓zaw, ↓zaN, ↓zaZ, ↓zbk, ↓zw, ↓zaj, ↓zO, ↓zE, ↓zY,zdr,zbm,zbl,unA,zdo,bnd,zdL,zab,zS,zdI,dm,dm1,zG,zak,zdZ,zdY,zH,Q0,Q1,Q2,Q3,Q4,Q5,zW,zx,zy,zT,zL,Q6,Q7,Q8,Q9,Q10,Q11,Q12,Q13,Q14,Nat.reduceAdd,Q15,Int.reduceToNat,Q16,Q17,Q18,Q19,Q20,reduceIte,Q21,Q22,zF,rep,zaa,zeC,toD,zag,Q23,Q24,Q25,Q26,Q27,Q28,Nat.reduceLeDiff,Q29,Nat.reduceSub,Q30,Q31,Q32,sc,Q33,Q34,Q35,Q36,Q37,Q26,Q38,Q39,zis,zio,zil,zit,zcN,ziq,zim,zir,zin,zcM,zcO,ziu,ziv,Bool.not_true,Bool.not_false,List.length_map,Bool.and_false,Bool.and_self,Bool.false_and,Bool.not_false,Bool.not_true,Bool.true_and,Int.toNat_natCast,Int.toNat_zero,List.drop_zero,List.length_map,List.length_nil,List.nil_append,List.take_length,Nat.sub_zero,Nat.zero_add,Option.isSome_none,Option.isSome_some,Option.map_none,Option.map_some,zav,beq_self_eq_true,bne_self_eq_false,zgr,zeA,zfQ,zaN,mgetR,zaZ,a]|with_reducible refine zix ?_|fail);exact h.go):P:=e a ⟨h⟩
theorem zqa {σ:List zh} {id m t:Nat} {l:List (List UInt8)} {b:List UInt8} (hT:zdH σ id m t l) {K:KT} (hK:K (.tup [.d (.int .i64 (zjl (zdf l b))),.d (.bool (zdf l b).isSome)]) σ) :
  zp Tryz.prog zbB [.box id 0,.d (.slice (bcs b))] σ K:=by
 refine zeW zqU fun hl => ?_
 have hb:=hT.box
 have hm:=hT.map
 have hf:=mfind_tab l b
 simp only [zkw,iN,bT,bF,eN]
 refine gq1 ?_
 refine zyS hT ?_
 cases ho:zdf l b with
 | none=>
  rw [ho] at hf hK
  simp only [Option.map_none] at hf
  refine gq3 (zg hb (zg hm hf)) ?_
  refine zI hl ?_
  exact hK
 | some k=>
  rw [ho] at hf hK
  simp only [Option.map_some] at hf
  refine gq3 (zg hb (zg hm hf)) ?_
  refine zI hl ?_
  exact hK
theorem c_tLen {σ:List zh} {id m t:Nat} {l:List (List UInt8)} (hT:zdH σ id m t l) {K:KT} (hK:K (.d (.int .i64 l.length)) σ):zp Tryz.prog zhx [.box id 0] σ K:=by
 refine zfc zss fun hl => ?_
 have hb:=hT.box
 simp only [zlF,iN,bT,bF,eN]
 refine gq1 ?_
 refine zyS hT ?_
 refine gq2 hb ?_
 refine zI hl ?_
 exact hK
theorem c_gLen {σ:List zh} {id m t:Nat} {g:List zR} (hG:zeY σ id m t g) {K:KT} (hK:K (.d (.int .i64 g.length)) σ):zp Tryz.prog zgP [.box id 0] σ K:=by
 refine zfc zqV fun hl => ?_
 have hb:=hG.box
 simp only [zkx,iN,bT,bF,eN]
 refine gq1 ?_
 refine zzk hG ?_
 refine gq2 hb ?_
 refine zI hl ?_
 exact hK
theorem gq4 {A P Q:Prop} (a:A) (h:Q) (e:A->Hd Q->P:=by intro a h;(repeat' first|simp -dsimp only [↓zeU, ↓zaA, ↓zbp, ↓zeV, ↓zeO, ↓zeM, ↓zeP, ↓zeN, ↓zbu, ↓zbq, ↓zbv, ↓zbr, ↓zeQ, ↓zbo, ↓zbw, ↓zbs, ↓zbx, ↓zbt, ↓zeL, ↓zeT, ↓zbn, ↓zby, ↓zeG, ↓zeF, ↓zeK,iN,bT,bF,eN, ↓zco, ↓unC, ↓zX, ↓zM, ↓zN, ↓zQ, ↓zZ, ↓zai, ↓zcv, ↓zaf, ↓zaS, ↓zV, ↓zl, ↓zm, ↓zbg, ↓ze, ↓zae, ↓zC, ↓zaM, ↓zaT, ↓zd, ↓zA, ↓zr, ↓zD, ↓zao, ↓zcY, ↓zdn, ↓zap, ↓zaw, ↓zaN, ↓zaZ, ↓zbk, ↓zw, ↓zaj, ↓zO, ↓zE, ↓zY,zdr,zbm,zbl,unA,zdo,bnd,zdL,zab,zS,zdI,dm,dm1,zG,zak,zdZ,zdY,zH,Q0,Q1,Q2,Q3,Q4,Q5,zW,zx,zy,zT,zL,Q6,Q7,Q8,Q9,Q10,Q11,Q12,Q13,Q14,Nat.reduceAdd,Q15,Int.reduceToNat,Q16,Q17,Q18,Q19,Q20,reduceIte,Q21,Q22,zF,rep,zaa,zeC,toD,zag,Q23,Q24,Q25,Q26,Q27,Q28,Nat.reduceLeDiff,Q29,Nat.reduceSub,Q30,Q31,Q32,sc,Q33,Q34,Q35,Q36,Q37,Q26,Q38,Q39,zis,zio,zil,zit,zcN,ziq,zim,zir,zin,zcM,zcO,ziu,ziv,Bool.not_true,Bool.not_false,List.length_map,Bool.and_false,Bool.and_self,Bool.false_and,Bool.not_false,Bool.not_true,Bool.true_and,Int.toNat_natCast,Int.toNat_zero,List.drop_zero,List.length_map,List.length_nil,List.nil_append,List.take_length,Nat.sub_zero,Nat.zero_add,Option.isSome_none,Option.isSome_some,Option.map_none,Option.map_some,zav,beq_self_eq_true,bne_self_eq_false,zgr,zcu,zdq,zeA,zgT,zea,zfQ,zaN,mgetR,zaZ,zjl,opA,zjU,zgz,zbX,a]|with_reducible refine zix ?_|fail);exact h.go):P:=e a ⟨h⟩
theorem c_gSigned {σ:List zh} {id m t:Nat} {g:List zR} {s:zR} (hG:zeY σ id m t g) {K:KT} (hK:K (.d (.bool (decide (s∈g)))) σ) :
  zp Tryz.prog zfj [.box id 0,.agg [.d (.int .i64 s.key),.d (.int .i64 s.dig)]] σ K:=by
 refine zeW znI fun hl => ?_
 have hb:∀ τ,(σ ++ τ)[id]? = _:=fun τ=>zf hG.box
 have hm:∀ τ,(σ ++ τ)[m]? = _:=fun τ=>zf hG.map
 simp only [zid,iN,bT,bF,eN]
 refine gq1 ?_
 refine zzk (hG.app _) ?_
 by_cases hs:s∈g
 ·obtain ⟨k,hf⟩:=zqC hs
  rw [decide_eq_true hs] at hK
  refine gq4 (zg hb (zg hm hf)) ?_
  refine zI hl ?_
  exact hK
 ·have hf:=zsM hs
  rw [decide_eq_false hs] at hK
  refine gq4 (zg hb (zg hm hf)) ?_
  refine zI hl ?_
  exact hK
theorem c_tSum {σ:List zh} {id m t:Nat} {l:List (List UInt8)} {b:List UInt8} (hT:zdH σ id m t l) (hbl:b.length<=1073741824) (hll:l.length<=1048576) {K:KT}
  (hK:K (.d (.int .i64 (zdX l b))) (putTab σ id m t (zfD l b))):zp Tryz.prog zfv [.box id 0,.d (.slice (bcs b))] σ K:=by
 refine zeW zsr fun hl => ?_
 have hb:=hT.box
 have hm:=hT.map
 have ht:=hT.tok
 have hf:=mfind_tab l b
 obtain ⟨n1,n2,n3⟩:=hT.ne
 have hlen:(zhI l).length=l.length:=List.length_map ..
 simp only [zlE,iN,bT,bF,eN]
 refine gq1 ?_
 refine zyS hT ?_
 cases ho:zdf l b with
 | some k=>
  rw [ho] at hf
  simp only [zdX,zfD,ho] at hK
  rw [hT.self] at hK
  simp only [Option.map_some] at hf
  refine gq3 (zg hb (zg hm hf)) ?_
  refine zI hl ?_
  exact hK
 | none=>
  rw [ho] at hf
  simp only [zdX,zfD,ho] at hK
  simp only [Option.map_none] at hf
  by_cases hfull:l.length≥1048576
  ·rw [if_pos hfull,if_pos hfull,hT.self] at hK
   have hd:decide ((l.length:Int)≥1048576)=true:=by simp;omega
   refine gq3 (zg hb (zg hm (zg hf (zg hlen hd)))) ?_
   refine zI hl ?_
   exact hK
  ·rw [if_neg hfull,if_neg hfull] at hK
   have hd:decide ((l.length:Int)≥1048576)=false:=by simp;omega
   have g1:∀ τ,(σ ++ τ)[id]? = some (.box [.own t (zhI l),.map m]):=fun τ=>zf hb
   have g2:∀ τ,(σ ++ τ)[t]? = some (.tok 1 l.length):=fun τ=>zf ht
   have s1:∀ X τ,(σ ++ τ).set t X = σ.set t X ++ τ:=fun X τ=>zcg ht
   have hb':∀ X,(σ.set t X)[id]? = some (.box [.own t (zhI l),.map m]):=fun X=>by rw [List.getElem?_set_ne (Ne.symm n2)];exact hb
   have g3:∀ X τ,(σ.set t X ++ τ)[id]? = some (.box [.own t (zhI l),.map m]):=fun X τ=>zf (hb' X)
   have s2:∀ X Y τ,(σ.set t X ++ τ).set id Y=(σ.set t X).set id Y ++ τ:=fun X Y τ=>zcg (hb' X)
   have g4:∀ X Y τ,((σ.set t X).set id Y ++ τ)[id]? = some Y:=fun X Y τ=>zf (zbJ (hb' X))
   have hm':∀ X Y,((σ.set t X).set id Y)[m]? = some (.map (tabM l)):=fun X Y=>by rw [List.getElem?_set_ne n1,List.getElem?_set_ne (Ne.symm n3)];exact hm
   have g5:∀ X Y τ,((σ.set t X).set id Y ++ τ)[m]? = some (.map (tabM l)):=fun X Y τ=>zf (hm' X Y)
   have s3:∀ X Y Z τ,((σ.set t X).set id Y ++ τ).set m Z=((σ.set t X).set id Y).set m Z ++ τ:=fun X Y Z τ=>zcg (hm' X Y)
   refine gq3 (zg hb (zg hm (zg hf (zg hlen hd)))) ?_
   refine zzl zgs (by rw [zav];omega) ?_
   refine gq3 (zg g1 (zg g2 (zg s1 (zg g3 (zg s2 (zg g4 (zg g5 (zg s3 (zg hf hlen))))))))) ?_
   refine ⟨hb.symm,by simp,by omega,?_⟩
   have e:putTab σ id m t (l++[b])=((σ.set t (zh.tok 1 (l.length+1))).set id (zh.box [AV.own t (zhI l++[[D.slice (bcs b)]]),AV.map m])).set m (zh.map (tabM l++[(AV.d (D.str b),AV.d (D.int IntKind.i64 ((l.length+1:Nat):Int)))])):=by
    simp [putTab,tabM_add,zhI]
    rw [← tabM_add];simp
   rw [← e]
   exact zeZ (putTab_len ..) (by simp [zfz,dmT,dm,dm1,zcJ]) (hT.lows hl _) hK
end Go.Proofs.YtfgbofkdhfjegaaGreat
