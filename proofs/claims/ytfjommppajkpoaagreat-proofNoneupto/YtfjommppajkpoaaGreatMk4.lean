/- Contracts: a leaf's proof, on both sides. -/
import Derived.Test.YtfjommppajkpoaaGreatMk3
set_option linter.all false
set_option maxRecDepth 100000
namespace Go.Proofs.YtfjommppajkpoaaGreat
open Go.AW
theorem zno {f : Nat} {L : List (List UInt8)} {i : Nat} {l : List (List UInt8)} (h : l.length ≤ 1) : zca f L i l = ([],L) := by
 cases f with
 | zero => rfl
 | succ f => simp only [zca]; rw [if_pos h]
theorem zis : ∀ (f : Nat) {L : List (List UInt8)} {i : Nat} {l : List (List UInt8)},l.length ≤ f → L.length ≤ 1048576 → (zca f L i l).2.length ≤ 1048576 ∧ (zca f L i l).1.length ≤ l.length
 | 0,L,i,l,_,h => ⟨h,by simp [zca]⟩
 | f + 1,L,i,l,hf,h => by
  by_cases h1 : l.length ≤ 1
  ·rw [zno h1]; exact ⟨h,by simp⟩
  ·have hs := zbZ (n := l.length) (by omega)
   simp only [zca]
   rw [if_neg h1]
   split
   ·have h2 := zis f (L := L) (i := i) (l := l.take (zk l.length)) (by rw [List.length_take]; omega) h
    refine ⟨(zcu l.length (by rw [List.length_drop]; omega) h2.1).1, ?_⟩
    have := h2.2
    rw [List.length_take] at this
    simp only [List.length_append,List.length_cons,List.length_nil]
    omega
   ·have h2 := zis f (L := L) (i := i - zk l.length) (l := l.drop (zk l.length)) (by rw [List.length_drop]; omega) h
    refine ⟨(zcu l.length (by rw [List.length_take]; omega) h2.1).1, ?_⟩
    have := h2.2
    rw [List.length_drop] at this
    simp only [List.length_append,List.length_cons,List.length_nil]
    omega
theorem proveA_2 {f : Nat} {L : List (List UInt8)} {i : Nat} {l : List (List UInt8)} (h : 2 ≤ l.length) : zca (f + 1) L i l =
  if i < zk l.length then ((zca f L i (l.take (zk l.length))).1 ++ [(zcc (zca f L i (l.take (zk l.length))).2 (l.drop (zk l.length))).1],(zcc (zca f L i (l.take (zk l.length))).2 (l.drop (zk l.length))).2)
  else ((zca f L (i - zk l.length) (l.drop (zk l.length))).1 ++ [(zcc (zca f L (i - zk l.length) (l.drop (zk l.length))).2 (l.take (zk l.length))).1],(zcc (zca f L (i - zk l.length) (l.drop (zk l.length))).2 (l.take (zk l.length))).2) := by
 simp only [zca]
 rw [if_neg (by omega)]
structure DnAt (σ : List zg) (mm l1 a1 tk id m t : Nat) (q : List Int) (L : List (List UInt8)) : Prop where
 fn : σ[mm]? = some (.box [.fn (.func zcs) [] [.box mm 0, .box l1 0, .box a1 0]])
 pr : σ[l1]? = some (.box [.own tk (zbd q)])
 ta : σ[a1]? = some (.box [.box id 0])
 tok : σ[tk]? = some (.tok 1 q.length)
 tab : zcd σ id m t L
 ne : tk ≠ t
def dnW (l1 tk id m t j : Nat) : Prop := j = l1 ∨ j = tk ∨ j = id ∨ j = m ∨ j = t
theorem zhd {σ : List zg} {id m t j : Nat} (L : List (List UInt8)) (h1 : j ≠ id) (h2 : j ≠ m) (h3 : j ≠ t) : (putTab σ id m t L)[j]? = σ[j]? := by
 unfold putTab
 rw [List.getElem?_set_ne (fun e => h2 e.symm),List.getElem?_set_ne (fun e => h1 e.symm),List.getElem?_set_ne (fun e => h3 e.symm)]
theorem DnAt.dis {σ : List zg} {mm l1 a1 tk id m t : Nat} {q : List Int} {L : List (List UInt8)} (h : DnAt σ mm l1 a1 tk id m t q L) :
  (l1 ≠ tk ∧ l1 ≠ id ∧ l1 ≠ m ∧ l1 ≠ t) ∧ (tk ≠ id ∧ tk ≠ m ∧ tk ≠ t) ∧ (mm ≠ l1 ∧ mm ≠ tk ∧ mm ≠ id ∧ mm ≠ m ∧ mm ≠ t) ∧ (a1 ≠ l1 ∧ a1 ≠ tk ∧ a1 ≠ id ∧ a1 ≠ m ∧ a1 ≠ t) := by
 have h1 := h.fn; have h2 := h.pr; have h3 := h.ta; have h4 := h.tok; have h5 := h.tab.box; have h6 := h.tab.map; have h7 := h.tab.tok; have h8 := h.ne
 have key : ∀ {i j : Nat} {x y : zg}, σ[i]? = some x → σ[j]? = some y → x ≠ y → i ≠ j := fun {i j x y} hx hy hn e => by subst e; rw [hx] at hy; cases hy; exact hn rfl
 refine ⟨⟨key h2 h4 (by simp),key h2 h5 (by simp),key h2 h6 (by simp),key h2 h7 (by simp)⟩,⟨key h4 h5 (by simp),key h4 h6 (by simp),h8⟩,⟨key h1 h2 (by simp),key h1 h4 (by simp),key h1 h5 (by simp),key h1 h6 (by simp),key h1 h7 (by simp)⟩,key h3 h2 (by simp),key h3 h4 (by simp),key h3 h5 (by simp),key h3 h6 (by simp),key h3 h7 (by simp)⟩
theorem lows_of {n : Nat} {σ σ' : List zg} (hl : zdY n σ) (h : ∀ (j : Nat) (x : zg), σ'[j]? = some x → σ[j]? = some x ∨ zuo n x) : zdY n σ' := fun j x hx => by
 rcases h j x hx with h | h
 ·exact hl j x h
 ·exact h
theorem dn_step {σ S : List zg} {mm l1 a1 tk id m t : Nat} {q q' : List Int} {L0 L L2 : List (List UInt8)} {r : Int} (h0 : DnAt σ mm l1 a1 tk id m t q L0) (hlen : S.length = σ.length) (h : DnAt S mm l1 a1 tk id m t q' L) (hfr : ∀ j, ¬ dnW l1 tk id m t j → S[j]? = σ[j]?) {S2 : List zg}
  (hS2 : S2 = ((putTab S id m t L2).set tk (.tok 1 (q'.length + 1))).set l1 (.box [.own tk (zbd (q' ++ [r]))])) :
  S2.length = σ.length ∧ DnAt S2 mm l1 a1 tk id m t (q' ++ [r]) L2 ∧ (∀ j, ¬ dnW l1 tk id m t j → S2[j]? = σ[j]?) ∧ (zdY σ.length σ → zdY σ.length S2) := by
 obtain ⟨⟨a1',a2,a3,a4⟩,⟨b1,b2,b3⟩,⟨c1,c2,c3,c4,c5⟩,d1,d2,d3,d4,d5⟩ := h.dis
 have hput := h.tab.put L2
 have hlt : (putTab S id m t L2).length = S.length := zcr ..
 have ltk := zA h.tok
 have ll1 := zA h.pr
 have e1 : S2.length = σ.length := by rw [hS2]; simp [hlt,hlen]
 have get : ∀ j,j ≠ l1 → j ≠ tk → S2[j]? = (putTab S id m t L2)[j]? := fun j h1 h2 => by
  rw [hS2,List.getElem?_set_ne (fun e => h1 e.symm),List.getElem?_set_ne (fun e => h2 e.symm)]
 have gl : S2[l1]? = some (.box [.own tk (zbd (q' ++ [r]))]) := by rw [hS2]; simp [hlt,ll1]
 have gt : S2[tk]? = some (.tok 1 (q' ++ [r]).length) := by
  rw [hS2,List.getElem?_set_ne a1']
  simp [hlt,ltk]
 have fr : ∀ j, ¬ dnW l1 tk id m t j → S2[j]? = σ[j]? := fun j hj => by
  have hj' := hj
  simp only [dnW,not_or] at hj'
  rw [get j hj'.1 hj'.2.1,zhd _ hj'.2.2.1 hj'.2.2.2.1 hj'.2.2.2.2,hfr j hj]
 refine ⟨e1,⟨?_,gl, ?_,gt,⟨?_, ?_, ?_⟩,h.ne⟩,fr,fun hl => ?_⟩
 ·rw [get mm c1 c2,zhd _ c3 c4 c5]; exact h.fn
 ·rw [get a1 d1 d2,zhd _ d3 d4 d5]; exact h.ta
 ·rw [get id a2.symm b1.symm]; exact hput.box
 ·rw [get m a3.symm b2.symm]; exact hput.map
 ·rw [get t a4.symm b3.symm]; exact hput.tok
 ·refine lows_of hl fun j x hx => ?_
  by_cases hj : dnW l1 tk id m t j
  ·right
   rcases hj with rfl | rfl | rfl | rfl | rfl
   ·rw [gl] at hx; cases hx
    intro c hc
    simp only [List.mem_cons,List.not_mem_nil,or_false] at hc
    subst hc; exact .own _ _ (by omega)
   ·rw [gt] at hx; cases hx; trivial
   ·rw [get _ a2.symm b1.symm,hput.box] at hx; cases hx
    exact lowBox (by have := zA h.tab.tok; omega) (by have := zA h.tab.map; omega)
   ·rw [get _ a3.symm b2.symm,hput.map] at hx; cases hx
    exact zoR _
   ·rw [get _ a4.symm b3.symm,hput.tok] at hx; cases hx; trivial
  ·left; rw [← fr j hj]; exact hx
theorem c_mkDn : ∀ (f : Nat) {σ : List zg} {mm l1 a1 tk id m t : Nat} {q : List Int} {L l : List (List UInt8)} {i : Nat},l.length ≤ f → i < l.length → DnAt σ mm l1 a1 tk id m t q L → L.length ≤ 1048576 → l.length + q.length ≤ 1073741824 → (∀ x ∈ l,x.length ≤ 1073740000) → ∀ {K : KT},
  (∀ S : List zg,S.length = σ.length → DnAt S mm l1 a1 tk id m t (q ++ (zca f L i l).1) (zca f L i l).2 → (∀ j, ¬ dnW l1 tk id m t j → S[j]? = σ[j]?) → (zdY σ.length σ → zdY σ.length S) → K (.tup []) S) →
  zq Tryz.prog zcs [.d (.int .i64 i), .d (.slice (zdo l)), .box mm 0, .box l1 0, .box a1 0] σ K := by
 intro f
 induction f with
 | zero => intros; omega
 | succ f ih =>
  intro σ mm l1 a1 tk id m t q L l i hf hi hD hL hn hx K hK
  refine acE5 zqk fun hl => ?_
  have hlen : (zdo l).length = l.length := List.length_map ..
  simp only [zjU,iN,bT,bF,eN]
  by_cases h1 : l.length ≤ 1
  ·have e1 : ((l.length : Int) == 1) = true := by simp; omega
   rw [zno h1] at hK
   refine gq2 (zc hlen e1) ?_
   refine zK hl ?_
   exact hK σ rfl (by simpa using hD) (fun _ _ => rfl) (fun h => h)
  ·have h2 : 2 ≤ l.length := by omega
   have hs := zbZ h2
   rw [proveA_2 h2] at hK
   have e1 : ((l.length : Int) == 1) = false := by rw [beq_eq_false_iff_ne]; omega
   have htk : List.take (zk l.length) (zdo l) = zdo (l.take (zk l.length)) := by rw [zdo, ← List.map_take]
   have hdr : List.drop (zk l.length) (zdo l) = zdo (l.drop (zk l.length)) := by rw [zdo, ← List.map_drop]
   have htl : List.take l.length (zdo l) = zdo l := List.take_of_length_le (by omega)
   have hone : ∀ e ∈ zdo l,e.length = 1 := zhf (f := fun b => [D.slice (bcs b)]) (fun _ => rfl) l
   have hl1 : (l.take (zk l.length)).length = zk l.length := by rw [List.length_take]; omega
   have hl2 : (l.drop (zk l.length)).length = l.length - zk l.length := List.length_drop
   have dfn := hD.fn
   refine gq2 (zc hlen e1) ?_
   refine znS (by omega) ?_
   -- behind the root's call
   have tail : ∀ (A : List Int × List (List UInt8)) (R : Int × List (List UInt8)) (S : List zg),A.1.length ≤ l.length → S.length = σ.length → DnAt S mm l1 a1 tk id m t (q ++ A.1) A.2 → (∀ j, ¬ dnW l1 tk id m t j → S[j]? = σ[j]?) →
     (∀ S : List zg,S.length = σ.length → DnAt S mm l1 a1 tk id m t (q ++ (A.1 ++ [R.1])) R.2 → (∀ j, ¬ dnW l1 tk id m t j → S[j]? = σ[j]?) → (zdY σ.length σ → zdY σ.length S) → K (.tup []) S) →
     (putTab S id m t R.2)[l1]? = some (.box [.own tk (zbd (q ++ A.1))]) ∧ (putTab S id m t R.2)[tk]? = some (.tok 1 (q ++ A.1).length) ∧ ((putTab S id m t R.2).set tk (.tok 1 ((q ++ A.1).length + 1)))[l1]? = some (.box [.own tk (zbd (q ++ A.1))]) ∧
     AW.Ends σ.length K (some []) (((putTab S id m t R.2).set tk (.tok 1 ((q ++ A.1).length + 1))).set l1 (.box [.own tk (zbd (q ++ A.1) ++ [[.int .i64 R.1]])])) := fun A R S hAl hSl hS hfr hR => by
    obtain ⟨⟨p1,p2,p3,p4⟩,⟨b1,b2,b3⟩,_⟩ := hS.dis
    obtain ⟨k1,k2,k3,k4⟩ := dn_step (r := R.1) (L2 := R.2) hD hSl hS hfr rfl
    refine ⟨by rw [zhd _ p2 p3 p4]; exact hS.pr,by rw [zhd _ b1 b2 b3]; exact hS.tok, ?_, ?_⟩
    ·rw [List.getElem?_set_ne p1.symm,zhd _ p2 p3 p4]; exact hS.pr
    ·have e : zbd (q ++ A.1) ++ [[D.int .i64 R.1]] = zbd ((q ++ A.1) ++ [R.1]) := by simp
     rw [e]
     refine zck k1 (by simp [zbY,dmT,zbf]) (k4 hl) ?_
     exact hR _ k1 (by rw [← List.append_assoc]; exact k2) k3 k4
   by_cases hc : i < zk l.length
   ·have hd : decide ((i : Int) < ((zk l.length : Nat) : Int)) = true := by simp; omega
    rw [if_pos hc] at hK
    obtain ⟨g1,g2⟩ := zis f (L := L) (i := i) (l := l.take (zk l.length)) (by omega) hL
    refine gq2 (zc hd (zc dfn (zc hlen htk))) ?_
    refine ih (i := i) (by omega) (by omega) hD hL (by omega) (fun z hz => hx z (List.mem_of_mem_take hz)) ?_
    obtain ⟨A,hA⟩ : ∃ A,zca f L i (l.take (zk l.length)) = A := ⟨_,rfl⟩
    rw [hA] at hK g1 g2 ⊢
    intro S hSl hS hfr _
    have spr := hS.pr
    have sta := hS.ta
    have hql : (zbd (q ++ A.1)).length = (q ++ A.1).length := List.length_map ..
    have hqb : (q ++ A.1).length ≤ 1073741824 := by rw [List.length_append]; omega
    obtain ⟨t1,t2,t3,t4⟩ := tail A (zcc A.2 (l.drop (zk l.length))) S (by omega) hSl hS hfr hK
    obtain ⟨Q,hQ⟩ : ∃ Q,q ++ A.1 = Q := ⟨_,rfl⟩
    rw [hQ] at spr hql hqb t1 t2 t3 t4
    refine gq2 (zc spr (zc sta (zc hlen (zc htl hdr)))) ?_
    refine c_mkRoot hS.tab g1 (by omega) (fun z hz => hx z (List.mem_of_mem_drop hz)) ?_
    refine gq2 (zc spr (zc t1 (zc t2 (zc t3 hql)))) ?_
    exact t4
   ·have hd : decide ((i : Int) < ((zk l.length : Nat) : Int)) = false := by simp; omega
    have hw2 : IntKind.i64.wrap ((i : Int) - ((zk l.length : Nat) : Int)) = ((i - zk l.length : Nat) : Int) := by rw [zJ (by omega) (by omega)]; omega
    rw [if_neg hc] at hK
    obtain ⟨g1,g2⟩ := zis f (L := L) (i := i - zk l.length) (l := l.drop (zk l.length)) (by omega) hL
    refine gq2 (zc hd (zc hw2 (zc dfn (zc hlen (zc htl hdr))))) ?_
    refine ih (i := i - zk l.length) (by omega) (by omega) hD hL (by omega) (fun z hz => hx z (List.mem_of_mem_drop hz)) ?_
    obtain ⟨A,hA⟩ : ∃ A,zca f L (i - zk l.length) (l.drop (zk l.length)) = A := ⟨_,rfl⟩
    rw [hA] at hK g1 g2 ⊢
    intro S hSl hS hfr _
    have spr := hS.pr
    have sta := hS.ta
    have hql : (zbd (q ++ A.1)).length = (q ++ A.1).length := List.length_map ..
    have hqb : (q ++ A.1).length ≤ 1073741824 := by rw [List.length_append]; omega
    obtain ⟨t1,t2,t3,t4⟩ := tail A (zcc A.2 (l.take (zk l.length))) S (by omega) hSl hS hfr hK
    obtain ⟨Q,hQ⟩ : ∃ Q,q ++ A.1 = Q := ⟨_,rfl⟩
    rw [hQ] at spr hql hqb t1 t2 t3 t4
    refine gq2 (zc spr (zc sta (zc hlen htk))) ?_
    refine c_mkRoot hS.tab g1 (by omega) (fun z hz => hx z (List.mem_of_mem_take hz)) ?_
    refine gq2 (zc spr (zc t1 (zc t2 (zc t3 hql)))) ?_
    exact t4
theorem c_mkProve {σ : List zg} {id m t : Nat} {L l : List (List UInt8)} {i : Nat} (hi : i < l.length) (hT : zcd σ id m t L) (hI : zjN L) (hn : l.length ≤ 1048576) (hx : ∀ x ∈ l,x.length ≤ 1073740000) {K : KT}
  (hK : K (.tup [.d (.slice (zbd (zca l.length L i l).1)), .d (.int .i64 0)]) (putTab σ id m t (zca l.length L i l).2)) : zq Tryz.prog zif [.box id 0, .d (.int .i64 i), .d (.slice (zdo l))] σ K := by
 refine acE3 zsP fun hl => ?_
 have hlen : (zdo l).length = l.length := List.length_map ..
 have d1 : decide ((i : Int) < 0) = false := by simp
 have d2 : decide ((i : Int) ≥ (l.length : Int)) = false := by simp; omega
 have hL := hI.len
 simp only [zmr,iN,bT,bF,eN]
 refine gq1 ?_
 refine zjB (hT.app _) hI.nd hI.len hI.each ?_
 refine gq2 (zc d1 (zc d2 hlen)) ?_
 refine zq.pre (xs' := [.d (.int .i64 i), .d (.slice (zdo l)), .box (σ.length + 5) 0, .box (σ.length + 4) 0, .box σ.length 0]) (σ' := σ ++ [.box [.box id 0], .map (tabM L), .box [.own (σ.length + 3) (zdo L), .map (σ.length + 1)], .tok 1 L.length, .box [.own (σ.length + 6) []], .box [.fn (.func zcs) [] [.box (σ.length + 5) 0, .box (σ.length + 4) 0, .box σ.length 0]], .tok 1 0]) ?_ ?_
 ·refine .tokB (σ.length + 4) 0 [.exact []] [] 1 (by rw [zh]; rfl) rfl (by simp) ?_
  rw [zT,zZ]
  simp only [List.set_cons_succ,List.set_cons_zero,List.length_cons,List.length_nil,List.append_assoc,List.cons_append,List.nil_append]
  exact .refl _ _
 have hD : DnAt (σ ++ [.box [.box id 0], .map (tabM L), .box [.own (σ.length + 3) (zdo L), .map (σ.length + 1)], .tok 1 L.length, .box [.own (σ.length + 6) []], .box [.fn (.func zcs) [] [.box (σ.length + 5) 0, .box (σ.length + 4) 0, .box σ.length 0]], .tok 1 0]) (σ.length + 5) (σ.length + 4) σ.length (σ.length + 6) id m t [] L :=
  ⟨by rw [zh]; rfl,by rw [zh]; rfl,by rw [zm]; rfl,by rw [zh]; rfl,hT.app _,by have := zA hT.tok; omega⟩
 refine c_mkDn l.length (q := []) (Nat.le_refl _) hi hD hL (by simp; omega) hx ?_
 obtain ⟨A,hA⟩ : ∃ A,zca l.length L i l = A := ⟨_,rfl⟩
 rw [hA] at hK ⊢
 intro S hSl hS hfr _
 have spr := hS.pr
 simp only [List.nil_append] at spr
 have hid := zA hT.box; have hm := zA hT.map; have ht := zA hT.tok
 have hSt : S = putTab σ id m t A.2 ++ S.drop σ.length := by
  have e1 : S.take σ.length = putTab σ id m t A.2 := by
   apply List.ext_getElem?
   intro j
   rw [List.getElem?_take]
   have hpl : (putTab σ id m t A.2).length = σ.length := zcr ..
   by_cases hj : j < σ.length
   ·rw [if_pos hj]
    have hput := hT.put A.2
    by_cases j1 : j = id
    ·subst j1; rw [hS.tab.box,hput.box]
    by_cases j2 : j = m
    ·subst j2; rw [hS.tab.map,hput.map]
    by_cases j3 : j = t
    ·subst j3; rw [hS.tab.tok,hput.tok]
    rw [hfr j (by simp only [dnW]; omega),zhd _ j1 j2 j3,List.getElem?_append_left hj]
   ·rw [if_neg hj]
    exact (List.getElem?_eq_none (by omega)).symm
  rw [← e1,List.take_append_drop]
 refine gq2 spr ?_
 rw [hSt]
 refine zcY (zcr ..) ?_ (hT.lows hl _) ?_
 ·simp [zcO,dmT,dm,dm1,zbY,zbf]
 ·exact hK
end Go.Proofs.YtfjommppajkpoaaGreat
