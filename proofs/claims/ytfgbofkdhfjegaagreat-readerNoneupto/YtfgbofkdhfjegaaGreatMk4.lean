/- Contracts: a leaf's proof, on both sides. -/
import Derived.Test.YtfgbofkdhfjegaaGreatMk2
import Derived.Test.YtfgbofkdhfjegaaGreatId2
import Derived.Test.YtfgbofkdhfjegaaGreatCl1
set_option linter.all false
set_option maxRecDepth 100000
namespace Go.Proofs.YtfgbofkdhfjegaaGreat
open Go.AW
theorem zoU {f : Nat} {L : List (List UInt8)} {i : Nat} {l : List (List UInt8)} (h : l.length ≤ 1) : zbh f L i l = ([],L) := by
 cases f with
 | zero => rfl
 | succ f => simp only [zbh]; rw [if_pos h]
theorem zjR : ∀ (f : Nat) {L : List (List UInt8)} {i : Nat} {l : List (List UInt8)},l.length ≤ f → L.length ≤ 1048576 → (zbh f L i l).2.length ≤ 1048576 ∧ (zbh f L i l).1.length ≤ l.length
 | 0,L,i,l,_,h => ⟨h,by simp [zbh]⟩
 | f + 1,L,i,l,hf,h => by
  by_cases h1 : l.length ≤ 1
  ·rw [zoU h1]; exact ⟨h,by simp⟩
  ·have hs := zcL (n := l.length) (by omega)
   simp only [zbh]
   rw [if_neg h1]
   split
   ·have h2 := zjR f (L := L) (i := i) (l := l.take (zm l.length)) (by rw [List.length_take]; omega) h
    refine ⟨(zdQ l.length (by rw [List.length_drop]; omega) h2.1).1, ?_⟩
    have := h2.2
    rw [List.length_take] at this
    simp only [List.length_append,List.length_cons,List.length_nil]
    omega
   ·have h2 := zjR f (L := L) (i := i - zm l.length) (l := l.drop (zm l.length)) (by rw [List.length_drop]; omega) h
    refine ⟨(zdQ l.length (by rw [List.length_take]; omega) h2.1).1, ?_⟩
    have := h2.2
    rw [List.length_drop] at this
    simp only [List.length_append,List.length_cons,List.length_nil]
    omega
theorem proveA_2 {f : Nat} {L : List (List UInt8)} {i : Nat} {l : List (List UInt8)} (h : 2 ≤ l.length) : zbh (f + 1) L i l =
  if i < zm l.length then ((zbh f L i (l.take (zm l.length))).1 ++ [(rootF (zbh f L i (l.take (zm l.length))).2 (l.drop (zm l.length))).1],(rootF (zbh f L i (l.take (zm l.length))).2 (l.drop (zm l.length))).2)
  else ((zbh f L (i - zm l.length) (l.drop (zm l.length))).1 ++ [(rootF (zbh f L (i - zm l.length) (l.drop (zm l.length))).2 (l.take (zm l.length))).1],(rootF (zbh f L (i - zm l.length) (l.drop (zm l.length))).2 (l.take (zm l.length))).2) := by
 simp only [zbh]
 rw [if_neg (by omega)]
def PathR (σ σ1 : List zh) (p : List Int) (K : KT) : Prop :=
 (p = [] → K (.tup [.exact [], .d (.int .i64 0)]) σ1) ∧ (p ≠ [] → K (.tup [.own σ.length (zdK p), .d (.int .i64 0)]) (σ1 ++ [.tok 1 p.length]))
theorem gq30 {P Q : Prop} (h : Q) (e : Hd Q → P := by intro h; (repeat' first | simp -dsimp only [↓zfT, ↓zaI, ↓zbP, ↓zfV, ↓zfN, ↓zfL, ↓zfO, ↓zfM, ↓zbU, ↓zbQ, ↓zbV, ↓zbR, ↓zfP, ↓zbN, ↓zbW, ↓zbS, ↓zbX, ↓zbT, ↓zfK, ↓zfQ, ↓zbM, ↓zbY, ↓zfF, ↓zfE, ↓zfH,iN,bT,bF,eN, ↓zcJ, ↓unC, ↓zaa, ↓zK, ↓zL, ↓zO, ↓zaf, ↓zaz, ↓zcK, ↓zar, ↓zbk, ↓zR, ↓zo, ↓zj, ↓zbz, ↓zg, ↓zam, ↓zH, ↓zaV, ↓zbc, ↓ze, ↓zB, ↓zu, ↓zC, ↓zap, ↓zdk, ↓zdO, ↓zav, ↓zaF, ↓zaZ, ↓zbj, ↓zbt, ↓zA, ↓zas, ↓zM, ↓zF, ↓zae,zdP,zbI,zbC,unA,zdL,bnd,zeq,zag,zQ,zek,dm,dm1,zD,zak,zeP,zeO,zP,Q0,Q1,Q2,Q3,Q4,Q5,zW,zt,zy,zN,zJ,Q6,Q7,Q8,Q9,Q10,Q11,Q12,Q13,Q14,Nat.reduceAdd,Q15,Int.reduceToNat,Q16,Q17,Q18,Q19,Q20,reduceIte,Q21,Q22,zG,rep,zab,zfq,toD,zaq,Q23,Q24,Q25,Q26,Q27,Q28,Nat.reduceLeDiff,Q29,Nat.reduceSub,Q30,Q31,Q32,sc,Q33,Q34,Q35,Q36,Q37,Q26,Q38,Q39,zjD,zjA,zjx,zjE,zdf,zjB,zjy,zjC,zjz,zde,zdg,zjG,zjH,Bool.not_true,Bool.not_false,List.length_map,List.length_set] | with_reducible refine zjK ?_ | fail); exact h.go) : P := e ⟨h⟩
theorem c_r5ProveA : ∀ (f : Nat) {σ : List zh} {id : Nat} {L l : List (List UInt8)} {i : Nat},l.length ≤ f → i < l.length → σ[id]? = some (rtO L) → L.length ≤ 1048576 → l.length ≤ 1073741824 → (∀ x ∈ l,x.length ≤ 1073740000) → ∀ {K : KT},
  PathR σ (σ.set id (rtO (zbh f L i l).2)) (zbh f L i l).1 K → zp Tryz.prog zgP [.box id 0, .d (.int .i64 i), .d (.slice (zgZ l))] σ K := by
 intro f
 induction f with
 | zero => intros; omega
 | succ f ih =>
  intro σ id L l i hf hi hT hL hn hx K hK
  refine zbB zsQ.is rfl (fun s => if s.length = σ.length then [] else [σ.length]) fun hl _ => zsQ.goes ?_
  have hlen : (zgZ l).length = l.length := List.length_map ..
  have d1 : decide ((i : Int) < 0) = false := by simp
  have d2 : decide ((i : Int) ≥ (l.length : Int)) = false := by simp; omega
  simp only [ztD,iN,bT,bF,eN]
  by_cases h1 : l.length ≤ 1
  ·have e1 : ((l.length : Int) == 1) = true := by simp; omega
   rw [zoU h1,zbq hT] at hK
   refine gq2 (zf d1 (zf d2 (zf hlen e1))) ?_
   exact zli (by simp) hl rfl (hK.1 rfl)
  ·have h2 : 2 ≤ l.length := by omega
   have hs := zcL h2
   rw [proveA_2 h2] at hK
   have e1 : ((l.length : Int) == 1) = false := by rw [beq_eq_false_iff_ne]; omega
   have htk : List.take (zm l.length) (zgZ l) = zgZ (l.take (zm l.length)) := by rw [zgZ, ← List.map_take]
   have hdr : List.drop (zm l.length) (zgZ l) = zgZ (l.drop (zm l.length)) := by rw [zgZ, ← List.map_drop]
   have htl : List.take l.length (zgZ l) = zgZ l := List.take_of_length_le (by omega)
   have hone : ∀ e ∈ zgZ l,e.length = 1 := zjt (f := fun b => [D.slice (bcs b)]) (fun _ => rfl) l
   have hl1 : (l.take (zm l.length)).length = zm l.length := by rw [List.length_take]; omega
   have hl2 : (l.drop (zm l.length)).length = l.length - zm l.length := List.length_drop
   refine gq2 (zf d1 (zf d2 (zf hlen e1))) ?_
   refine c_r5Split (by omega) ?_
   have last : ∀ (A : List Int × List (List UInt8)) (R : Int × List (List UInt8)) (tk : zh),A.1.length ≤ l.length → PathR σ (σ.set id (rtO R.2)) (A.1 ++ [R.1]) K →
     zmN σ.length (fun s => if s.length = σ.length then [] else [σ.length]) K (some [.own σ.length (zdK A.1 ++ [[.int .i64 R.1]]), .d (.int .i64 0)]) (σ.set id (rtO R.2) ++ [.tok 1 (A.1.length + 1)]) := fun A R tk _ hR => by
    refine endsK_one (t := σ.length) (x := .tok 1 (A.1.length + 1)) (r := .tup [.own σ.length (zdK (A.1 ++ [R.1])), .d (.int .i64 0)]) (by simp) (by simp) (Nat.le_refl _) (by rw [List.getElem?_append_right (by simp)]; simp) (hl.setO (zfs _ _)) (by trivial) ?_ ?_
    ·simp [zcC,zdb,ziU,zkL,idxK,zdK]
    ·have := hR.2 (by simp)
     simpa using this
   by_cases hc : i < zm l.length
   ·have hd : decide ((i : Int) < ((zm l.length : Nat) : Int)) = true := by simp; omega
    rw [if_pos hc] at hK
    obtain ⟨g1,g2⟩ := zjR f (L := L) (i := i) (l := l.take (zm l.length)) (by omega) hL
    refine gq2 (zf hd (zf hlen htk)) ?_
    refine ih (i := i) (by omega) (by omega) hT hL (by omega) (fun z hz => hx z (List.mem_of_mem_take hz)) ?_
    obtain ⟨A,hA⟩ : ∃ A,zbh f L i (l.take (zm l.length)) = A := ⟨_,rfl⟩
    rw [hA] at hK g1 g2 ⊢
    have hT1 : (σ.set id (rtO A.2))[id]? = some (rtO A.2) := zbv hT
    refine ⟨fun hp => ?_,fun hp => ?_⟩
    ·have hlast := last A (rootF A.2 (l.drop (zm l.length))) (.tok 1 0) (by omega) hK
     rw [hp] at hlast
     refine gq2 (zf hlen (zf htl hdr)) ?_
     refine znj hT1 g1 (by omega) (fun z hz => hx z (List.mem_of_mem_drop hz)) ?_
     rw [List.set_set]
     refine gq30 ?_
     exact hlast
    ·have hpl : (zdK A.1).length = A.1.length := List.length_map ..
     have hlast := last A (rootF A.2 (l.drop (zm l.length))) (.tok 1 0) (by omega) hK
     refine gq2 (zf hlen (zf htl hdr)) ?_
     refine znj (zd hT1) g1 (by omega) (fun z hz => hx z (List.mem_of_mem_drop hz)) ?_
     rw [zcd hT1,List.set_set]
     have hgt : ∀ X,(σ.set id X ++ [zh.tok 1 A.1.length])[σ.length]? = some (.tok 1 A.1.length) := fun X => by rw [List.getElem?_append_right (by simp)]; simp
     have hst : ∀ X Y,(σ.set id X ++ [zh.tok 1 A.1.length]).set σ.length Y = σ.set id X ++ [Y] := fun X Y => by rw [List.set_append_right _ _ (by simp)]; simp
     refine gq2 (zf hpl (zf hgt hst)) ?_
     exact hlast
   ·have hd : decide ((i : Int) < ((zm l.length : Nat) : Int)) = false := by simp; omega
    have hw2 : IntKind.i64.wrap ((i : Int) - ((zm l.length : Nat) : Int)) = ((i - zm l.length : Nat) : Int) := by rw [zac (by omega) (by omega)]; omega
    rw [if_neg hc] at hK
    obtain ⟨g1,g2⟩ := zjR f (L := L) (i := i - zm l.length) (l := l.drop (zm l.length)) (by omega) hL
    refine gq2 (zf hd (zf hw2 (zf hlen (zf htl hdr)))) ?_
    refine ih (i := i - zm l.length) (by omega) (by omega) hT hL (by omega) (fun z hz => hx z (List.mem_of_mem_drop hz)) ?_
    obtain ⟨A,hA⟩ : ∃ A,zbh f L (i - zm l.length) (l.drop (zm l.length)) = A := ⟨_,rfl⟩
    rw [hA] at hK g1 g2 ⊢
    have hT1 : (σ.set id (rtO A.2))[id]? = some (rtO A.2) := zbv hT
    refine ⟨fun hp => ?_,fun hp => ?_⟩
    ·have hlast := last A (rootF A.2 (l.take (zm l.length))) (.tok 1 0) (by omega) hK
     rw [hp] at hlast
     refine gq2 (zf hlen htk) ?_
     refine znj hT1 g1 (by omega) (fun z hz => hx z (List.mem_of_mem_take hz)) ?_
     rw [List.set_set]
     refine gq30 ?_
     exact hlast
    ·have hpl : (zdK A.1).length = A.1.length := List.length_map ..
     have hlast := last A (rootF A.2 (l.take (zm l.length))) (.tok 1 0) (by omega) hK
     refine gq2 (zf hlen htk) ?_
     refine znj (zd hT1) g1 (by omega) (fun z hz => hx z (List.mem_of_mem_take hz)) ?_
     rw [zcd hT1,List.set_set]
     have hgt : ∀ X,(σ.set id X ++ [zh.tok 1 A.1.length])[σ.length]? = some (.tok 1 A.1.length) := fun X => by rw [List.getElem?_append_right (by simp)]; simp
     have hst : ∀ X Y,(σ.set id X ++ [zh.tok 1 A.1.length]).set σ.length Y = σ.set id X ++ [Y] := fun X Y => by rw [List.set_append_right _ _ (by simp)]; simp
     refine gq2 (zf hpl (zf hgt hst)) ?_
     exact hlast
theorem c_r5Prove {σ : List zh} {id : Nat} {L l : List (List UInt8)} {i : Nat} (hi : i < l.length) (hT : σ[id]? = some (rtO L)) (hL : L.length ≤ 1048576) (hn : l.length ≤ 1073741824) (hx : ∀ x ∈ l,x.length ≤ 1073740000) {K : KT}
  (hK : PathR σ (σ.set id (rtO (zbh l.length L i l).2)) (zbh l.length L i l).1 K) : zp Tryz.prog zgP [.box id 0, .d (.int .i64 i), .d (.slice (zgZ l))] σ K := c_r5ProveA l.length (Nat.le_refl _) hi hT hL hn hx hK
theorem zpv {σ : List zh} {id m t : Nat} {g : List zI} (hG : zee σ id m t g) (hg : g.length ≤ 1073741824) {K : KT}
  (hK : ∀ g' : List zI,K (.box (σ.length + 1) 0) (σ ++ ledO σ.length g')) : zp Tryz.prog zbs [.box id 0] σ K := by
 refine zbB zeQ.is rfl (fun s => List.range' σ.length 3) fun hl _ => zeQ.goes ?_
 have hbx : ∀ τ,(σ ++ τ)[id]? = _ := fun τ => zd hG.box
 have hlen : (zpP g).length = g.length := List.length_map ..
 simp only [zeT,iN,bT,bF,eN]
 refine gq1 ?_
 refine zwx hG ?_
 refine gq2 hbx ?_
 refine zoB ?_
 refine gq2 (zf hbx hlen) ?_
 refine zr g.length (fun k vs s => vs = [.d (.int .i64 k)] ∧ ∃ g' τ,g'.length ≤ k ∧ s = σ ++ (ledO σ.length g' ++ τ)) ⟨rfl, [], [],by simp,by simp [zpP,zrM]⟩ ?_
 rintro k vs s hk ⟨rfl,g', τ,hg',rfl⟩
 by_cases hlt : k < g.length
 ·have hd : decide ((k : Int) < (g.length : Int)) = true := by simp; omega
  have hx : g[k]? = some g[k] := by simp [hlt]
  obtain ⟨x,hxe⟩ : ∃ x,g[k] = x := ⟨_,rfl⟩
  rw [hxe] at hx
  have hgx : (zpP g)[k]? = some [D.int .i64 x.key,D.int .i64 x.dig] := by rw [zpP]; exact zS hx
  refine gq2 (zf hd (zf hgx hlen)) ?_
  have hL : ∀ τ',zee (σ ++ (ledO σ.length g' ++ τ')) (σ.length + 1) σ.length (σ.length + 2) g' := fun τ' => ledAt_new σ g' τ'
  refine c_gSign (hL (τ ++ [.box [.d (.int .i64 x.key), .d (.int .i64 x.dig)]])) (by omega) ?_
  have hP := putLed_new σ g' (zfW g' x.key x.dig) (τ ++ [.box [.d (.int .i64 x.key), .d (.int .i64 x.dig)]])
  rw [hP]
  have hw : IntKind.i64.wrap ((k : Int) + 1) = ((k + 1 : Nat) : Int) := by rw [zac (by omega) (by omega)]; rfl
  refine gq2 hw ?_
  refine zaG.next hlt ⟨rfl,zfW g' x.key x.dig, τ ++ [.box [.d (.int .i64 x.key), .d (.int .i64 x.dig)]], ?_,by simp [ledO]⟩
  unfold zfW zlJ
  split
  ·split
   ·omega
   ·simp; omega
  ·omega
 ·have hd : decide ((k : Int) < (g.length : Int)) = false := by simp; omega
  refine gq2 (zf hlen hd) ?_
  exact zqW (σ' := σ) (os := ledO σ.length g') (τ := τ) rfl rfl hl (low_ledO _ _) (.box _ _ (by simp)) (hK g')
end Go.Proofs.YtfgbofkdhfjegaaGreat

/- Headers, and records at their places: their bytes; chains. No program in sight. -/
namespace Go.AW
structure zcS where
 seq : Int
 prev : Int
 batch : Int
 root : Int
 state : Int
deriving DecidableEq
def zpQ (h : zcS) : List Int := [h.seq,h.prev,h.batch,h.root,h.state]
abbrev hdrD (h : zcS) : List D := [.int .i64 h.seq, .int .i64 h.prev, .int .i64 h.batch, .int .i64 h.root, .int .i64 h.state]
abbrev ztK (h : zcS) : AV := .agg [.d (.int .i64 h.seq), .d (.int .i64 h.prev), .d (.int .i64 h.batch), .d (.int .i64 h.root), .d (.int .i64 h.state)]
abbrev ziO (l : List zcS) : List (List D) := l.map hdrD
def zkb (h : zcS) : Bool := (zpQ h).all zdc
def zba (h : zcS) : Int := if zkb h = true then 0 else 90
def zpe (h : zcS) : List UInt8 := 3 :: zhU (zpQ h)
def hdrBF (h : zcS) : List UInt8 := if zba h = 0 then zpe h else []
theorem zdU {h : zcS} : zba h = 0 ↔ zkb h = true := by
 unfold zba; split <;> simp_all
theorem zhg {h : zcS} (hk : zkb h = true) : ∀ x ∈ zpQ h, 0 ≤ x ∧ x ≤ 9007199254740992 := fun x hx => zeY.1 (List.all_eq_true.1 hk x hx)
theorem hdrB_len {h : zcS} (hk : zkb h = true) : (zpe h).length ≤ 51 := by
 have := zmb (l := zpQ h) fun x hx => by have := zhg hk x hx; omega
 simp only [zpe,zpQ,List.length_cons,List.length_nil] at this ⊢
 omega
def linkF (L : List (List UInt8)) : Option zcS → zcS → Bool
 | none,_ => true
 | some q,h => match zcW L (zpe q) with
  | some i => (h.prev == ((i + 1 : Nat) : Int)) && (h.seq == q.seq + 1)
  | none => false
def ztc (L : List (List UInt8)) : Option zcS → List zcS → Bool
 | _, [] => true
 | p,h :: r => zkb h && (linkF L p h && ztc L (some h) r)
def zuT (L : List (List UInt8)) (l : List zcS) : Bool := ztc L none l
structure zbb where
 topic : List UInt8
 offset : Int
 rec_ : List UInt8
abbrev zgf (p : zbb) : List D := [.str p.topic, .int .i64 p.offset, .slice (bcs p.rec_)]
abbrev zbm (l : List zbb) : List (List D) := l.map zgf
def zaJ (p : zbb) : List UInt8 := zoT p.topic ++ (zcO p.offset.toNat ++ zoT p.rec_)
theorem chain_drop {L : List (List UInt8)} {p : Option zcS} {l : List zcS} {k : Nat} {h : zcS} (hx : l[k]? = some h) : ztc L p (l.drop k) = (zkb h && (linkF L p h && ztc L (some h) (l.drop (k + 1)))) := by
 have hk : k < l.length := (List.getElem?_eq_some_iff.1 hx).1
 rw [List.drop_eq_getElem_cons hk,(List.getElem?_eq_some_iff.1 hx).2]
 rfl
end Go.AW
