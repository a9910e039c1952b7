/- Contracts: a leaf's proof, on both sides. -/
import Derived.Test.YtfgbofkdhfjegaaGreatMk2
import Derived.Test.YtfgbofkdhfjegaaGreatId2
import Derived.Test.YtfgbofkdhfjegaaGreatCl1
set_option linter.all false
set_option maxRecDepth 100000
namespace Go.Proofs.YtfgbofkdhfjegaaGreat
open Go.AW
theorem zoI {f : Nat} {L : List (List UInt8)} {i : Nat} {l : List (List UInt8)} (h : l.length ≤ 1) : zbh f L i l = ([],L) := by
 cases f with
 | zero => rfl
 | succ f => simp only [zbh]; rw [if_pos h]
theorem zjE : ∀ (f : Nat) {L : List (List UInt8)} {i : Nat} {l : List (List UInt8)},l.length ≤ f → L.length ≤ 1048576 → (zbh f L i l).2.length ≤ 1048576 ∧ (zbh f L i l).1.length ≤ l.length
 | 0,L,i,l,_,h => ⟨h,by simp [zbh]⟩
 | f + 1,L,i,l,hf,h => by
  by_cases h1 : l.length ≤ 1
  ·rw [zoI h1]; exact ⟨h,by simp⟩
  ·have hs := zcK (n := l.length) (by omega)
   simp only [zbh]
   rw [if_neg h1]
   split
   ·have h2 := zjE f (L := L) (i := i) (l := l.take (zm l.length)) (by rw [List.length_take]; omega) h
    refine ⟨(zdS l.length (by rw [List.length_drop]; omega) h2.1).1, ?_⟩
    have := h2.2
    rw [List.length_take] at this
    simp only [List.length_append,List.length_cons,List.length_nil]
    omega
   ·have h2 := zjE f (L := L) (i := i - zm l.length) (l := l.drop (zm l.length)) (by rw [List.length_drop]; omega) h
    refine ⟨(zdS l.length (by rw [List.length_take]; omega) h2.1).1, ?_⟩
    have := h2.2
    rw [List.length_drop] at this
    simp only [List.length_append,List.length_cons,List.length_nil]
    omega
theorem proveA_2 {f : Nat} {L : List (List UInt8)} {i : Nat} {l : List (List UInt8)} (h : 2 ≤ l.length) : zbh (f + 1) L i l =
  if i < zm l.length then ((zbh f L i (l.take (zm l.length))).1 ++ [(rootF (zbh f L i (l.take (zm l.length))).2 (l.drop (zm l.length))).1],(rootF (zbh f L i (l.take (zm l.length))).2 (l.drop (zm l.length))).2)
  else ((zbh f L (i - zm l.length) (l.drop (zm l.length))).1 ++ [(rootF (zbh f L (i - zm l.length) (l.drop (zm l.length))).2 (l.take (zm l.length))).1],(rootF (zbh f L (i - zm l.length) (l.drop (zm l.length))).2 (l.take (zm l.length))).2) := by
 simp only [zbh]
 rw [if_neg (by omega)]
def PathR (σ σ1 : List zh) (p : List Int) (K : KT) : Prop :=
 (p = [] → K (.tup [.exact [], .d (.int .i64 0)]) σ1) ∧ (p ≠ [] → K (.tup [.own σ.length (zdB p), .d (.int .i64 0)]) (σ1 ++ [.tok 1 p.length]))
theorem gq30 {P Q : Prop} (h : Q) (e : Hd Q → P := by intro h; (repeat' first | simp -dsimp only [↓zeY, ↓zaC, ↓zbz, ↓zeZ, ↓zeU, ↓zeS, ↓zeV, ↓zeT, ↓zbE, ↓zbA, ↓zbF, ↓zbB, ↓zeW, ↓zby, ↓zbG, ↓zbC, ↓zbH, ↓zbD, ↓zeR, ↓zeX, ↓zbx, ↓zbJ, ↓zeP, ↓zeO, ↓zeQ,iN,bT,bF,eN, ↓zcF, ↓unC, ↓zW, ↓zK, ↓zL, ↓zN, ↓zad, ↓zax, ↓zcB, ↓zal, ↓zbj, ↓zQ, ↓zo, ↓zj, ↓zbr, ↓zg, ↓zai, ↓zH, ↓zaM, ↓zaV, ↓ze, ↓zD, ↓zw, ↓zB, ↓zao, ↓zdb, ↓zdx, ↓zaq, ↓zay, ↓zaU, ↓zbd, ↓zbl, ↓zu, ↓zan, ↓zM, ↓zE, ↓zaa,zdz,zbq,zbn,unA,zdy,bnd,zec,zaf,zS,zdY,dm,dm1,zC,zah,zen,zem,zP,Q0,Q1,Q2,Q3,Q4,Q5,zT,zx,zy,zO,zI,Q6,Q7,Q8,Q9,Q10,Q11,Q12,Q13,Q14,Nat.reduceAdd,Q15,Int.reduceToNat,Q16,Q17,Q18,Q19,Q20,reduceIte,Q21,Q22,zG,rep,zZ,zeF,toD,zaj,Q23,Q24,Q25,Q26,Q27,Q28,Nat.reduceLeDiff,Q29,Nat.reduceSub,Q30,Q31,Q32,sc,Q33,Q34,Q35,Q36,Q37,Q26,Q38,Q39,zii,zif,zic,zij,zcN,zig,zid,zih,zie,zcM,zcO,zim,zin,Bool.not_true,Bool.not_false,List.length_map,List.length_set] | with_reducible refine zix ?_ | fail); exact h.go) : P := e ⟨h⟩
theorem c_r5ProveA : ∀ (f : Nat) {σ : List zh} {id : Nat} {L l : List (List UInt8)} {i : Nat},l.length ≤ f → i < l.length → σ[id]? = some (rtO L) → L.length ≤ 1048576 → l.length ≤ 1073741824 → (∀ x ∈ l,x.length ≤ 1073740000) → ∀ {K : KT},
  PathR σ (σ.set id (rtO (zbh f L i l).2)) (zbh f L i l).1 K → zr Tryz.prog zgx [.box id 0, .d (.int .i64 i), .d (.slice (zgH l))] σ K := by
 intro f
 induction f with
 | zero => intros; omega
 | succ f ih =>
  intro σ id L l i hf hi hT hL hn hx K hK
  refine zce zsI.is rfl (fun s => if s.length = σ.length then [] else [σ.length]) fun hl _ => zsI.goes ?_
  have hlen : (zgH l).length = l.length := List.length_map ..
  have d1 : decide ((i : Int) < 0) = false := by simp
  have d2 : decide ((i : Int) ≥ (l.length : Int)) = false := by simp; omega
  simp only [ztx,iN,bT,bF,eN]
  by_cases h1 : l.length ≤ 1
  ·have e1 : ((l.length : Int) == 1) = true := by simp; omega
   rw [zoI h1,zbo hT] at hK
   refine gq2 (zf d1 (zf d2 (zf hlen e1))) ?_
   exact zkU (by simp) hl rfl (hK.1 rfl)
  ·have h2 : 2 ≤ l.length := by omega
   have hs := zcK h2
   rw [proveA_2 h2] at hK
   have e1 : ((l.length : Int) == 1) = false := by rw [beq_eq_false_iff_ne]; omega
   have htk : List.take (zm l.length) (zgH l) = zgH (l.take (zm l.length)) := by rw [zgH, ← List.map_take]
   have hdr : List.drop (zm l.length) (zgH l) = zgH (l.drop (zm l.length)) := by rw [zgH, ← List.map_drop]
   have htl : List.take l.length (zgH l) = zgH l := List.take_of_length_le (by omega)
   have hone : ∀ e ∈ zgH l,e.length = 1 := zjq (f := fun b => [D.slice (bcs b)]) (fun _ => rfl) l
   have hl1 : (l.take (zm l.length)).length = zm l.length := by rw [List.length_take]; omega
   have hl2 : (l.drop (zm l.length)).length = l.length - zm l.length := List.length_drop
   refine gq2 (zf d1 (zf d2 (zf hlen e1))) ?_
   refine c_r5Split (by omega) ?_
   have last : ∀ (A : List Int × List (List UInt8)) (R : Int × List (List UInt8)) (tk : zh),A.1.length ≤ l.length → PathR σ (σ.set id (rtO R.2)) (A.1 ++ [R.1]) K →
     zni σ.length (fun s => if s.length = σ.length then [] else [σ.length]) K (some [.own σ.length (zdB A.1 ++ [[.int .i64 R.1]]), .d (.int .i64 0)]) (σ.set id (rtO R.2) ++ [.tok 1 (A.1.length + 1)]) := fun A R tk _ hR => by
    refine endsK_one (t := σ.length) (x := .tok 1 (A.1.length + 1)) (r := .tup [.own σ.length (zdB (A.1 ++ [R.1])), .d (.int .i64 0)]) (by simp) (by simp) (Nat.le_refl _) (by rw [List.getElem?_append_right (by simp)]; simp) (hl.setO (zfw _ _)) (by trivial) ?_ ?_
    ·simp [zcC,zdh,ziT,zky,idxK,zdB]
    ·have := hR.2 (by simp)
     simpa using this
   by_cases hc : i < zm l.length
   ·have hd : decide ((i : Int) < ((zm l.length : Nat) : Int)) = true := by simp; omega
    rw [if_pos hc] at hK
    obtain ⟨g1,g2⟩ := zjE f (L := L) (i := i) (l := l.take (zm l.length)) (by omega) hL
    refine gq2 (zf hd (zf hlen htk)) ?_
    refine ih (i := i) (by omega) (by omega) hT hL (by omega) (fun z hz => hx z (List.mem_of_mem_take hz)) ?_
    obtain ⟨A,hA⟩ : ∃ A,zbh f L i (l.take (zm l.length)) = A := ⟨_,rfl⟩
    rw [hA] at hK g1 g2 ⊢
    have hT1 : (σ.set id (rtO A.2))[id]? = some (rtO A.2) := zbu hT
    refine ⟨fun hp => ?_,fun hp => ?_⟩
    ·have hlast := last A (rootF A.2 (l.drop (zm l.length))) (.tok 1 0) (by omega) hK
     rw [hp] at hlast
     refine gq2 (zf hlen (zf htl hdr)) ?_
     refine zmU hT1 g1 (by omega) (fun z hz => hx z (List.mem_of_mem_drop hz)) ?_
     rw [List.set_set]
     refine gq30 ?_
     exact hlast
    ·have hpl : (zdB A.1).length = A.1.length := List.length_map ..
     have hlast := last A (rootF A.2 (l.drop (zm l.length))) (.tok 1 0) (by omega) hK
     refine gq2 (zf hlen (zf htl hdr)) ?_
     refine zmU (zd hT1) g1 (by omega) (fun z hz => hx z (List.mem_of_mem_drop hz)) ?_
     rw [zbZ hT1,List.set_set]
     have hgt : ∀ X,(σ.set id X ++ [zh.tok 1 A.1.length])[σ.length]? = some (.tok 1 A.1.length) := fun X => by rw [List.getElem?_append_right (by simp)]; simp
     have hst : ∀ X Y,(σ.set id X ++ [zh.tok 1 A.1.length]).set σ.length Y = σ.set id X ++ [Y] := fun X Y => by rw [List.set_append_right _ _ (by simp)]; simp
     refine gq2 (zf hpl (zf hgt hst)) ?_
     exact hlast
   ·have hd : decide ((i : Int) < ((zm l.length : Nat) : Int)) = false := by simp; omega
    have hw2 : IntKind.i64.wrap ((i : Int) - ((zm l.length : Nat) : Int)) = ((i - zm l.length : Nat) : Int) := by rw [zU (by omega) (by omega)]; omega
    rw [if_neg hc] at hK
    obtain ⟨g1,g2⟩ := zjE f (L := L) (i := i - zm l.length) (l := l.drop (zm l.length)) (by omega) hL
    refine gq2 (zf hd (zf hw2 (zf hlen (zf htl hdr)))) ?_
    refine ih (i := i - zm l.length) (by omega) (by omega) hT hL (by omega) (fun z hz => hx z (List.mem_of_mem_drop hz)) ?_
    obtain ⟨A,hA⟩ : ∃ A,zbh f L (i - zm l.length) (l.drop (zm l.length)) = A := ⟨_,rfl⟩
    rw [hA] at hK g1 g2 ⊢
    have hT1 : (σ.set id (rtO A.2))[id]? = some (rtO A.2) := zbu hT
    refine ⟨fun hp => ?_,fun hp => ?_⟩
    ·have hlast := last A (rootF A.2 (l.take (zm l.length))) (.tok 1 0) (by omega) hK
     rw [hp] at hlast
     refine gq2 (zf hlen htk) ?_
     refine zmU hT1 g1 (by omega) (fun z hz => hx z (List.mem_of_mem_take hz)) ?_
     rw [List.set_set]
     refine gq30 ?_
     exact hlast
    ·have hpl : (zdB A.1).length = A.1.length := List.length_map ..
     have hlast := last A (rootF A.2 (l.take (zm l.length))) (.tok 1 0) (by omega) hK
     refine gq2 (zf hlen htk) ?_
     refine zmU (zd hT1) g1 (by omega) (fun z hz => hx z (List.mem_of_mem_take hz)) ?_
     rw [zbZ hT1,List.set_set]
     have hgt : ∀ X,(σ.set id X ++ [zh.tok 1 A.1.length])[σ.length]? = some (.tok 1 A.1.length) := fun X => by rw [List.getElem?_append_right (by simp)]; simp
     have hst : ∀ X Y,(σ.set id X ++ [zh.tok 1 A.1.length]).set σ.length Y = σ.set id X ++ [Y] := fun X Y => by rw [List.set_append_right _ _ (by simp)]; simp
     refine gq2 (zf hpl (zf hgt hst)) ?_
     exact hlast
theorem c_r5Prove {σ : List zh} {id : Nat} {L l : List (List UInt8)} {i : Nat} (hi : i < l.length) (hT : σ[id]? = some (rtO L)) (hL : L.length ≤ 1048576) (hn : l.length ≤ 1073741824) (hx : ∀ x ∈ l,x.length ≤ 1073740000) {K : KT}
  (hK : PathR σ (σ.set id (rtO (zbh l.length L i l).2)) (zbh l.length L i l).1 K) : zr Tryz.prog zgx [.box id 0, .d (.int .i64 i), .d (.slice (zgH l))] σ K := c_r5ProveA l.length (Nat.le_refl _) hi hT hL hn hx hK
theorem zpn {σ : List zh} {id m t : Nat} {g : List zJ} (hG : zee σ id m t g) (hg : g.length ≤ 1073741824) {K : KT}
  (hK : ∀ g' : List zJ,K (.box (σ.length + 1) 0) (σ ++ ledO σ.length g')) : zr Tryz.prog zcd [.box id 0] σ K := by
 refine zce zho.is rfl (fun s => List.range' σ.length 3) fun hl _ => zho.goes ?_
 have hbx : ∀ τ,(σ ++ τ)[id]? = _ := fun τ => zd hG.box
 have hlen : (zpH g).length = g.length := List.length_map ..
 simp only [zhC,iN,bT,bF,eN]
 refine gq1 ?_
 refine zwo hG ?_
 refine gq2 hbx ?_
 refine ztd ?_
 refine gq2 (zf hbx hlen) ?_
 refine zt g.length (fun k vs s => vs = [.d (.int .i64 k)] ∧ ∃ g' τ,g'.length ≤ k ∧ s = σ ++ (ledO σ.length g' ++ τ)) ⟨rfl, [], [],by simp,by simp [zpH,ztE]⟩ ?_
 rintro k vs s hk ⟨rfl,g', τ,hg',rfl⟩
 by_cases hlt : k < g.length
 ·have hd : decide ((k : Int) < (g.length : Int)) = true := by simp; omega
  have hx : g[k]? = some g[k] := by simp [hlt]
  obtain ⟨x,hxe⟩ : ∃ x,g[k] = x := ⟨_,rfl⟩
  rw [hxe] at hx
  have hgx : (zpH g)[k]? = some [D.int .i64 x.key,D.int .i64 x.dig] := by rw [zpH]; exact zR hx
  refine gq2 (zf hd (zf hgx hlen)) ?_
  have hL : ∀ τ',zee (σ ++ (ledO σ.length g' ++ τ')) (σ.length + 1) σ.length (σ.length + 2) g' := fun τ' => ledAt_new σ g' τ'
  refine c_gSign (hL (τ ++ [.box [.d (.int .i64 x.key), .d (.int .i64 x.dig)]])) (by omega) ?_
  have hP := putLed_new σ g' (zfI g' x.key x.dig) (τ ++ [.box [.d (.int .i64 x.key), .d (.int .i64 x.dig)]])
  rw [hP]
  have hw : IntKind.i64.wrap ((k : Int) + 1) = ((k + 1 : Nat) : Int) := by rw [zU (by omega) (by omega)]; rfl
  refine gq2 hw ?_
  refine zaF.next hlt ⟨rfl,zfI g' x.key x.dig, τ ++ [.box [.d (.int .i64 x.key), .d (.int .i64 x.dig)]], ?_,by simp [ledO]⟩
  unfold zfI zly
  split
  ·split
   ·omega
   ·simp; omega
  ·omega
 ·have hd : decide ((k : Int) < (g.length : Int)) = false := by simp; omega
  refine gq2 (zf hlen hd) ?_
  exact zqP (σ' := σ) (os := ledO σ.length g') (τ := τ) rfl rfl hl (low_ledO _ _) (.box _ _ (by simp)) (hK g')
end Go.Proofs.YtfgbofkdhfjegaaGreat

/- Headers, and records at their places: their bytes; chains. No program in sight. -/
namespace Go.AW
structure zcW where
 seq : Int
 prev : Int
 batch : Int
 root : Int
 state : Int
deriving DecidableEq
def zpI (h : zcW) : List Int := [h.seq,h.prev,h.batch,h.root,h.state]
abbrev hdrD (h : zcW) : List D := [.int .i64 h.seq, .int .i64 h.prev, .int .i64 h.batch, .int .i64 h.root, .int .i64 h.state]
abbrev ztF (h : zcW) : AV := .agg [.d (.int .i64 h.seq), .d (.int .i64 h.prev), .d (.int .i64 h.batch), .d (.int .i64 h.root), .d (.int .i64 h.state)]
abbrev zio (l : List zcW) : List (List D) := l.map hdrD
def zjO (h : zcW) : Bool := (zpI h).all zdj
def zba (h : zcW) : Int := if zjO h = true then 0 else 90
def zoT (h : zcW) : List UInt8 := 3 :: zhE (zpI h)
def hdrBF (h : zcW) : List UInt8 := if zba h = 0 then zoT h else []
theorem zdV {h : zcW} : zba h = 0 ↔ zjO h = true := by
 unfold zba; split <;> simp_all
theorem zgO {h : zcW} (hk : zjO h = true) : ∀ x ∈ zpI h, 0 ≤ x ∧ x ≤ 9007199254740992 := fun x hx => zfb.1 (List.all_eq_true.1 hk x hx)
theorem hdrB_len {h : zcW} (hk : zjO h = true) : (zoT h).length ≤ 51 := by
 have := zlO (l := zpI h) fun x hx => by have := zgO hk x hx; omega
 simp only [zoT,zpI,List.length_cons,List.length_nil] at this ⊢
 omega
def linkF (L : List (List UInt8)) : Option zcW → zcW → Bool
 | none,_ => true
 | some q,h => match zdc L (zoT q) with
  | some i => (h.prev == ((i + 1 : Nat) : Int)) && (h.seq == q.seq + 1)
  | none => false
def zsW (L : List (List UInt8)) : Option zcW → List zcW → Bool
 | _, [] => true
 | p,h :: r => zjO h && (linkF L p h && zsW L (some h) r)
def zuM (L : List (List UInt8)) (l : List zcW) : Bool := zsW L none l
structure zaX where
 topic : List UInt8
 offset : Int
 rec_ : List UInt8
abbrev zdi (p : zaX) : List D := [.str p.topic, .int .i64 p.offset, .slice (bcs p.rec_)]
abbrev zaT (l : List zaX) : List (List D) := l.map zdi
def zaG (p : zaX) : List UInt8 := zoH p.topic ++ (zcR p.offset.toNat ++ zoH p.rec_)
theorem chain_drop {L : List (List UInt8)} {p : Option zcW} {l : List zcW} {k : Nat} {h : zcW} (hx : l[k]? = some h) : zsW L p (l.drop k) = (zjO h && (linkF L p h && zsW L (some h) (l.drop (k + 1)))) := by
 have hk : k < l.length := (List.getElem?_eq_some_iff.1 hx).1
 rw [List.drop_eq_getElem_cons hk,(List.getElem?_eq_some_iff.1 hx).2]
 rfl
end Go.AW
