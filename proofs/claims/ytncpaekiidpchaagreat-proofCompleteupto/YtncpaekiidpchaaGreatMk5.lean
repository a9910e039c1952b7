/- Contracts: the program's proof of a leaf. -/
import Derived.Test.YtncpaekiidpchaaGreatSpVote
import Derived.Test.YtncpaekiidpchaaGreatId3
import Derived.Test.YtncpaekiidpchaaGreatCl1
set_option linter.all false
set_option maxRecDepth 100000
namespace Go.Proofs.YtncpaekiidpchaaGreat
open Go.AW
structure DnAt (σ : List zg) (mm l1 a1 tk id m t : Nat) (q : List Int) (L : List (List UInt8)) : Prop where
 fn : σ[mm]? = some (.box [.fn (.func zcp) [] [.box mm 0, .box l1 0, .box a1 0]])
 pr : σ[l1]? = some (.box [.own tk (zbO q)])
 ta : σ[a1]? = some (.box [.box id 0])
 tok : σ[tk]? = some (.tok 1 q.length)
 tab : zcl σ id m t L
 ne : tk ≠ t
def dnW (l1 tk id m t j : Nat) : Prop := j = l1 ∨ j = tk ∨ j = id ∨ j = m ∨ j = t
theorem zgP {σ : List zg} {id m t j : Nat} (L : List (List UInt8)) (h1 : j ≠ id) (h2 : j ≠ m) (h3 : j ≠ t) : (putTab σ id m t L)[j]? = σ[j]? := by
 unfold putTab
 rw [List.getElem?_set_ne (fun e => h2 e.symm),List.getElem?_set_ne (fun e => h1 e.symm),List.getElem?_set_ne (fun e => h3 e.symm)]
theorem DnAt.dis {σ : List zg} {mm l1 a1 tk id m t : Nat} {q : List Int} {L : List (List UInt8)} (h : DnAt σ mm l1 a1 tk id m t q L) :
  (l1 ≠ tk ∧ l1 ≠ id ∧ l1 ≠ m ∧ l1 ≠ t) ∧ (tk ≠ id ∧ tk ≠ m ∧ tk ≠ t) ∧ (mm ≠ l1 ∧ mm ≠ tk ∧ mm ≠ id ∧ mm ≠ m ∧ mm ≠ t) ∧ (a1 ≠ l1 ∧ a1 ≠ tk ∧ a1 ≠ id ∧ a1 ≠ m ∧ a1 ≠ t) := by
 have h1 := h.fn; have h2 := h.pr; have h3 := h.ta; have h4 := h.tok; have h5 := h.tab.box; have h6 := h.tab.map; have h7 := h.tab.tok; have h8 := h.ne
 have key : ∀ {i j : Nat} {x y : zg}, σ[i]? = some x → σ[j]? = some y → x ≠ y → i ≠ j := fun {i j x y} hx hy hn e => by subst e; rw [hx] at hy; cases hy; exact hn rfl
 refine ⟨⟨key h2 h4 (by simp),key h2 h5 (by simp),key h2 h6 (by simp),key h2 h7 (by simp)⟩,⟨key h4 h5 (by simp),key h4 h6 (by simp),h8⟩,⟨key h1 h2 (by simp),key h1 h4 (by simp),key h1 h5 (by simp),key h1 h6 (by simp),key h1 h7 (by simp)⟩,key h3 h2 (by simp),key h3 h4 (by simp),key h3 h5 (by simp),key h3 h6 (by simp),key h3 h7 (by simp)⟩
theorem lows_of {n : Nat} {σ σ' : List zg} (hl : zfc n σ) (h : ∀ (j : Nat) (x : zg), σ'[j]? = some x → σ[j]? = some x ∨ ztJ n x) : zfc n σ' := fun j x hx => by
 rcases h j x hx with h | h
 ·exact hl j x h
 ·exact h
theorem dn_step {σ S : List zg} {mm l1 a1 tk id m t : Nat} {q q' : List Int} {L0 L L2 : List (List UInt8)} {r : Int} (h0 : DnAt σ mm l1 a1 tk id m t q L0) (hlen : S.length = σ.length) (h : DnAt S mm l1 a1 tk id m t q' L) (hfr : ∀ j, ¬ dnW l1 tk id m t j → S[j]? = σ[j]?) {S2 : List zg}
  (hS2 : S2 = ((putTab S id m t L2).set tk (.tok 1 (q'.length + 1))).set l1 (.box [.own tk (zbO (q' ++ [r]))])) :
  S2.length = σ.length ∧ DnAt S2 mm l1 a1 tk id m t (q' ++ [r]) L2 ∧ (∀ j, ¬ dnW l1 tk id m t j → S2[j]? = σ[j]?) ∧ (zfc σ.length σ → zfc σ.length S2) := by
 obtain ⟨⟨a1',a2,a3,a4⟩,⟨b1,b2,b3⟩,⟨c1,c2,c3,c4,c5⟩,d1,d2,d3,d4,d5⟩ := h.dis
 have hput := h.tab.put L2
 have hlt : (putTab S id m t L2).length = S.length := zco ..
 have ltk := zF h.tok
 have ll1 := zF h.pr
 have e1 : S2.length = σ.length := by rw [hS2]; simp [hlt,hlen]
 have get : ∀ j,j ≠ l1 → j ≠ tk → S2[j]? = (putTab S id m t L2)[j]? := fun j h1 h2 => by
  rw [hS2,List.getElem?_set_ne (fun e => h1 e.symm),List.getElem?_set_ne (fun e => h2 e.symm)]
 have gl : S2[l1]? = some (.box [.own tk (zbO (q' ++ [r]))]) := by rw [hS2]; simp [hlt,ll1]
 have gt : S2[tk]? = some (.tok 1 (q' ++ [r]).length) := by
  rw [hS2,List.getElem?_set_ne a1']
  simp [hlt,ltk]
 have fr : ∀ j, ¬ dnW l1 tk id m t j → S2[j]? = σ[j]? := fun j hj => by
  have hj' := hj
  simp only [dnW,not_or] at hj'
  rw [get j hj'.1 hj'.2.1,zgP _ hj'.2.2.1 hj'.2.2.2.1 hj'.2.2.2.2,hfr j hj]
 refine ⟨e1,⟨?_,gl, ?_,gt,⟨?_, ?_, ?_⟩,h.ne⟩,fr,fun hl => ?_⟩
 ·rw [get mm c1 c2,zgP _ c3 c4 c5]; exact h.fn
 ·rw [get a1 d1 d2,zgP _ d3 d4 d5]; exact h.ta
 ·rw [get id a2.symm b1.symm]; exact hput.box
 ·rw [get m a3.symm b2.symm]; exact hput.map
 ·rw [get t a4.symm b3.symm]; exact hput.tok
 ·refine lows_of hl fun j x hx => ?_
  by_cases hj : dnW l1 tk id m t j
  ·right
   rcases hj with rfl | rfl | rfl | rfl | rfl
   ·rw [gl] at hx; cases hx
    intro c hc
    simp only [List.mem_cons,List.not_mem_nil,or_false] at hc
    subst hc; exact .own _ _ (by omega)
   ·rw [gt] at hx; cases hx; trivial
   ·rw [get _ a2.symm b1.symm,hput.box] at hx; cases hx
    exact lowBox (by have := zF h.tab.tok; omega) (by have := zF h.tab.map; omega)
   ·rw [get _ a3.symm b2.symm,hput.map] at hx; cases hx
    exact zoL _
   ·rw [get _ a4.symm b3.symm,hput.tok] at hx; cases hx; trivial
  ·left; rw [← fr j hj]; exact hx
theorem c_mkDn : ∀ (f : Nat) {σ : List zg} {mm l1 a1 tk id m t : Nat} {q : List Int} {L l : List (List UInt8)} {i : Nat},l.length ≤ f → i < l.length → DnAt σ mm l1 a1 tk id m t q L → L.length ≤ 1048576 → l.length + q.length ≤ 1073741824 → (∀ x ∈ l,x.length ≤ 1073740000) → ∀ {K : KT},
  (∀ S : List zg,S.length = σ.length → DnAt S mm l1 a1 tk id m t (q ++ (zaD f L i l).1) (zaD f L i l).2 → (∀ j, ¬ dnW l1 tk id m t j → S[j]? = σ[j]?) → (zfc σ.length σ → zfc σ.length S) → K (.tup []) S) →
  zD Tryz.prog zcp [.d (.int .i64 i), .d (.slice (zdt l)), .box mm 0, .box l1 0, .box a1 0] σ K := by
 intro f
 induction f with
 | zero => intros; omega
 | succ f ih =>
  intro σ mm l1 a1 tk id m t q L l i hf hi hD hL hn hx K hK
  refine zj zjP.is rfl fun hl _ => zjP.goes ?_
  have hlen : (zdt l).length = l.length := List.length_map ..
  simp only [zjZ,iN,bT,bF,eN]
  by_cases h1 : l.length ≤ 1
  ·have e1 : ((l.length : Int) == 1) = true := by simp; omega
   rw [znb h1] at hK
   (repeat' first | refine gq2 (zd hlen e1) ?_ | with_reducible first | exact ⟨⟩ | refine zh ?_ | fail)
   (first | refine zaq hl ?_ | refine zap hl ?_)
   exact hK σ rfl (by simpa using hD) (fun _ _ => rfl) (fun h => h)
  ·have h2 : 2 ≤ l.length := by omega
   have hs := zbX h2
   rw [proveA_2 h2] at hK
   have e1 : ((l.length : Int) == 1) = false := by rw [beq_eq_false_iff_ne]; omega
   have htk : List.take (zi l.length) (zdt l) = zdt (l.take (zi l.length)) := by rw [zdt, ← List.map_take]
   have hdr : List.drop (zi l.length) (zdt l) = zdt (l.drop (zi l.length)) := by rw [zdt, ← List.map_drop]
   have htl : List.take l.length (zdt l) = zdt l := List.take_of_length_le (by omega)
   have hone : ∀ e ∈ zdt l,e.length = 1 := zif (f := fun b => [D.slice (bcs b)]) (fun _ => rfl) l
   have hl1 : (l.take (zi l.length)).length = zi l.length := by rw [List.length_take]; omega
   have hl2 : (l.drop (zi l.length)).length = l.length - zi l.length := List.length_drop
   have dfn := hD.fn
   (repeat' first | refine gq2 (zd hlen e1) ?_ | with_reducible first | exact ⟨⟩ | refine zh ?_ | fail)
   refine znJ (by omega) ?_
   -- behind the root's call
   have tail : ∀ (A : List Int × List (List UInt8)) (R : Int × List (List UInt8)) (S : List zg),A.1.length ≤ l.length → S.length = σ.length → DnAt S mm l1 a1 tk id m t (q ++ A.1) A.2 → (∀ j, ¬ dnW l1 tk id m t j → S[j]? = σ[j]?) →
     (∀ S : List zg,S.length = σ.length → DnAt S mm l1 a1 tk id m t (q ++ (A.1 ++ [R.1])) R.2 → (∀ j, ¬ dnW l1 tk id m t j → S[j]? = σ[j]?) → (zfc σ.length σ → zfc σ.length S) → K (.tup []) S) →
     (putTab S id m t R.2)[l1]? = some (.box [.own tk (zbO (q ++ A.1))]) ∧ (putTab S id m t R.2)[tk]? = some (.tok 1 (q ++ A.1).length) ∧ ((putTab S id m t R.2).set tk (.tok 1 ((q ++ A.1).length + 1)))[l1]? = some (.box [.own tk (zbO (q ++ A.1))]) ∧
     AW.Ends σ.length K (some []) (((putTab S id m t R.2).set tk (.tok 1 ((q ++ A.1).length + 1))).set l1 (.box [.own tk (zbO (q ++ A.1) ++ [[.int .i64 R.1]])])) := fun A R S hAl hSl hS hfr hR => by
    obtain ⟨⟨p1,p2,p3,p4⟩,⟨b1,b2,b3⟩,_⟩ := hS.dis
    obtain ⟨k1,k2,k3,k4⟩ := dn_step (r := R.1) (L2 := R.2) hD hSl hS hfr rfl
    refine ⟨by rw [zgP _ p2 p3 p4]; exact hS.pr,by rw [zgP _ b1 b2 b3]; exact hS.tok, ?_, ?_⟩
    ·rw [List.getElem?_set_ne p1.symm,zgP _ p2 p3 p4]; exact hS.pr
    ·have e : zbO (q ++ A.1) ++ [[D.int .i64 R.1]] = zbO ((q ++ A.1) ++ [R.1]) := by simp
     rw [e]
     refine zcj k1 (by simp [zca,dmT,zbv]) (k4 hl) ?_
     exact hR _ k1 (by rw [← List.append_assoc]; exact k2) k3 k4
   by_cases hc : i < zi l.length
   ·have hd : decide ((i : Int) < ((zi l.length : Nat) : Int)) = true := by simp; omega
    rw [if_pos hc] at hK
    obtain ⟨g1,g2⟩ := zit f (L := L) (i := i) (l := l.take (zi l.length)) (by omega) hL
    (repeat' first | refine gq2 (zd hd (zd dfn (zd hlen htk))) ?_ | with_reducible first | exact ⟨⟩ | refine zh ?_ | fail)
    refine ih (i := i) (by omega) (by omega) hD hL (by omega) (fun z hz => hx z (List.mem_of_mem_take hz)) ?_
    obtain ⟨A,hA⟩ : ∃ A,zaD f L i (l.take (zi l.length)) = A := ⟨_,rfl⟩
    rw [hA] at hK g1 g2 ⊢
    intro S hSl hS hfr _
    have spr := hS.pr
    have sta := hS.ta
    have hql : (zbO (q ++ A.1)).length = (q ++ A.1).length := List.length_map ..
    have hqb : (q ++ A.1).length ≤ 1073741824 := by rw [List.length_append]; omega
    obtain ⟨t1,t2,t3,t4⟩ := tail A (rootF A.2 (l.drop (zi l.length))) S (by omega) hSl hS hfr hK
    obtain ⟨Q,hQ⟩ : ∃ Q,q ++ A.1 = Q := ⟨_,rfl⟩
    rw [hQ] at spr hql hqb t1 t2 t3 t4
    (repeat' first | refine gq2 (zd spr (zd sta (zd hlen (zd htl hdr)))) ?_ | with_reducible first | exact ⟨⟩ | refine zh ?_ | fail)
    refine c_mkRoot hS.tab g1 (by omega) (fun z hz => hx z (List.mem_of_mem_drop hz)) ?_
    (repeat' first | refine gq2 (zd spr (zd t1 (zd t2 (zd t3 hql)))) ?_ | with_reducible first | exact ⟨⟩ | refine zh ?_ | fail)
    exact t4
   ·have hd : decide ((i : Int) < ((zi l.length : Nat) : Int)) = false := by simp; omega
    have hw2 : IntKind.i64.wrap ((i : Int) - ((zi l.length : Nat) : Int)) = ((i - zi l.length : Nat) : Int) := by rw [zX (by omega) (by omega)]; omega
    rw [if_neg hc] at hK
    obtain ⟨g1,g2⟩ := zit f (L := L) (i := i - zi l.length) (l := l.drop (zi l.length)) (by omega) hL
    (repeat' first | refine gq2 (zd hd (zd hw2 (zd dfn (zd hlen (zd htl hdr))))) ?_ | with_reducible first | exact ⟨⟩ | refine zh ?_ | fail)
    refine ih (i := i - zi l.length) (by omega) (by omega) hD hL (by omega) (fun z hz => hx z (List.mem_of_mem_drop hz)) ?_
    obtain ⟨A,hA⟩ : ∃ A,zaD f L (i - zi l.length) (l.drop (zi l.length)) = A := ⟨_,rfl⟩
    rw [hA] at hK g1 g2 ⊢
    intro S hSl hS hfr _
    have spr := hS.pr
    have sta := hS.ta
    have hql : (zbO (q ++ A.1)).length = (q ++ A.1).length := List.length_map ..
    have hqb : (q ++ A.1).length ≤ 1073741824 := by rw [List.length_append]; omega
    obtain ⟨t1,t2,t3,t4⟩ := tail A (rootF A.2 (l.take (zi l.length))) S (by omega) hSl hS hfr hK
    obtain ⟨Q,hQ⟩ : ∃ Q,q ++ A.1 = Q := ⟨_,rfl⟩
    rw [hQ] at spr hql hqb t1 t2 t3 t4
    (repeat' first | refine gq2 (zd spr (zd sta (zd hlen htk))) ?_ | with_reducible first | exact ⟨⟩ | refine zh ?_ | fail)
    refine c_mkRoot hS.tab g1 (by omega) (fun z hz => hx z (List.mem_of_mem_take hz)) ?_
    (repeat' first | refine gq2 (zd spr (zd t1 (zd t2 (zd t3 hql)))) ?_ | with_reducible first | exact ⟨⟩ | refine zh ?_ | fail)
    exact t4
theorem c_mkProve {σ : List zg} {id m t : Nat} {L l : List (List UInt8)} {i : Nat} (hi : i < l.length) (hT : zcl σ id m t L) (hI : zkk L) (hn : l.length ≤ 1048576) (hx : ∀ x ∈ l,x.length ≤ 1073740000) {K : KT}
  (hK : K (.tup [.d (.slice (zbO (zaD l.length L i l).1)), .d (.int .i64 0)]) (putTab σ id m t (zaD l.length L i l).2)) : zD Tryz.prog zii [.box id 0, .d (.int .i64 i), .d (.slice (zdt l))] σ K := by
 refine zj zlW.is rfl fun hl _ => zlW.goes ?_
 have hlen : (zdt l).length = l.length := List.length_map ..
 have d1 : decide ((i : Int) < 0) = false := by simp
 have d2 : decide ((i : Int) ≥ (l.length : Int)) = false := by simp; omega
 have hL := hI.len
 simp only [zmk,iN,bT,bF,eN]
 (repeat' first | refine gq1 ?_ | with_reducible first | exact ⟨⟩ | refine zh ?_ | fail)
 refine zlA (hT.app _) hI.nd hI.len hI.each ?_
 (repeat' first | refine gq2 (zd d1 (zd d2 hlen)) ?_ | with_reducible first | exact ⟨⟩ | refine zh ?_ | fail)
 refine zD.pre (xs' := [.d (.int .i64 i), .d (.slice (zdt l)), .box (σ.length + 5) 0, .box (σ.length + 4) 0, .box σ.length 0]) (σ' := σ ++ [.box [.box id 0], .map (tabM L), .box [.own (σ.length + 3) (zdt L), .map (σ.length + 1)], .tok 1 L.length, .box [.own (σ.length + 6) []], .box [.fn (.func zcp) [] [.box (σ.length + 5) 0, .box (σ.length + 4) 0, .box σ.length 0]], .tok 1 0]) ?_ ?_
 ·refine .tokB (σ.length + 4) 0 [.exact []] [] 1 (by rw [zr]; rfl) rfl (by simp) ?_
  rw [zO,zR]
  simp only [List.set_cons_succ,List.set_cons_zero,List.length_cons,List.length_nil,List.append_assoc,List.cons_append,List.nil_append]
  exact .refl _ _
 have hD : DnAt (σ ++ [.box [.box id 0], .map (tabM L), .box [.own (σ.length + 3) (zdt L), .map (σ.length + 1)], .tok 1 L.length, .box [.own (σ.length + 6) []], .box [.fn (.func zcp) [] [.box (σ.length + 5) 0, .box (σ.length + 4) 0, .box σ.length 0]], .tok 1 0]) (σ.length + 5) (σ.length + 4) σ.length (σ.length + 6) id m t [] L :=
  ⟨by rw [zr]; rfl,by rw [zr]; rfl,by rw [zy]; rfl,by rw [zr]; rfl,hT.app _,by have := zF hT.tok; omega⟩
 refine c_mkDn l.length (q := []) (Nat.le_refl _) hi hD hL (by simp; omega) hx ?_
 obtain ⟨A,hA⟩ : ∃ A,zaD l.length L i l = A := ⟨_,rfl⟩
 rw [hA] at hK ⊢
 intro S hSl hS hfr _
 have spr := hS.pr
 simp only [List.nil_append] at spr
 have hid := zF hT.box; have hm := zF hT.map; have ht := zF hT.tok
 have hSt : S = putTab σ id m t A.2 ++ S.drop σ.length := by
  have e1 : S.take σ.length = putTab σ id m t A.2 := by
   apply List.ext_getElem?
   intro j
   rw [List.getElem?_take]
   have hpl : (putTab σ id m t A.2).length = σ.length := zco ..
   by_cases hj : j < σ.length
   ·rw [if_pos hj]
    have hput := hT.put A.2
    by_cases j1 : j = id
    ·subst j1; rw [hS.tab.box,hput.box]
    by_cases j2 : j = m
    ·subst j2; rw [hS.tab.map,hput.map]
    by_cases j3 : j = t
    ·subst j3; rw [hS.tab.tok,hput.tok]
    rw [hfr j (by simp only [dnW]; omega),zgP _ j1 j2 j3,List.getElem?_append_left hj]
   ·rw [if_neg hj]
    exact (List.getElem?_eq_none (by omega)).symm
  rw [← e1,List.take_append_drop]
 (repeat' first | refine gq2 spr ?_ | with_reducible first | exact ⟨⟩ | refine zh ?_ | fail)
 rw [hSt]
 refine zdc (zco ..) ?_ (hT.lows hl _) ?_
 ·simp [zdh,dmT,dm,dm1,zca,zbv]
 ·exact hK
end Go.Proofs.YtncpaekiidpchaaGreat

/- A ledger's clone, whatever was signed. -/
set_option maxRecDepth 100000
namespace Go.Proofs.YtncpaekiidpchaaGreat
open Go.AW
theorem zqg {σ : List zg} {id m t : Nat} {g : List zJ} (hG : zdV σ id m t g) (hg : g.length ≤ 1073741824) {K : KT}
  (hK : ∀ g' : List zJ,K (.box (σ.length + 1) 0) (σ ++ ledO σ.length g')) : zD Tryz.prog zbY [.box id 0] σ K := by
 refine zcr zgd.is rfl (fun s => List.range' σ.length 3) fun hl _ => zgd.goes ?_
 have hbx : ∀ τ,(σ ++ τ)[id]? = _ := fun τ => zf hG.box
 have hlen : (zoh g).length = g.length := List.length_map ..
 simp only [zgm,iN,bT,bF,eN]
 (repeat' first | refine gq1 ?_ | with_reducible first | exact ⟨⟩ | refine zh ?_ | fail)
 refine zur hG ?_
 (repeat' first | refine gq2 hbx ?_ | with_reducible first | exact ⟨⟩ | refine zh ?_ | fail)
 refine zrt ?_
 (repeat' first | refine gq2 (zd hbx hlen) ?_ | with_reducible first | exact ⟨⟩ | refine zh ?_ | fail)
 refine zG g.length (fun k vs s => vs = [.d (.int .i64 k)] ∧ ∃ g' τ,g'.length ≤ k ∧ s = σ ++ (ledO σ.length g' ++ τ)) ⟨rfl, [], [],by simp,by simp [zoh,zrY]⟩ ?_
 rintro k vs s hk ⟨rfl,g', τ,hg',rfl⟩
 by_cases hlt : k < g.length
 ·have hd : decide ((k : Int) < (g.length : Int)) = true := by simp; omega
  have hx : g[k]? = some g[k] := by simp [hlt]
  obtain ⟨x,hxe⟩ : ∃ x,g[k] = x := ⟨_,rfl⟩
  rw [hxe] at hx
  have hgx : (zoh g)[k]? = some [D.int .i64 x.key,D.int .i64 x.dig] := by rw [zoh]; exact zae hx
  (repeat' first | refine gq2 (zd hd (zd hgx hlen)) ?_ | with_reducible first | exact ⟨⟩ | refine zh ?_ | fail)
  have hL : ∀ τ',zdV (σ ++ (ledO σ.length g' ++ τ')) (σ.length + 1) σ.length (σ.length + 2) g' := fun τ' => ledAt_new σ g' τ'
  refine c_gSign (hL (τ ++ [.box [.d (.int .i64 x.key), .d (.int .i64 x.dig)]])) (by omega) ?_
  have hP := putLed_new σ g' (zeL g' x.key x.dig) (τ ++ [.box [.d (.int .i64 x.key), .d (.int .i64 x.dig)]])
  rw [hP]
  have hw : IntKind.i64.wrap ((k : Int) + 1) = ((k + 1 : Nat) : Int) := by rw [zX (by omega) (by omega)]; rfl
  (repeat' first | refine gq2 hw ?_ | with_reducible first | exact ⟨⟩ | refine zh ?_ | fail)
  refine zav.next hlt ⟨rfl,zeL g' x.key x.dig, τ ++ [.box [.d (.int .i64 x.key), .d (.int .i64 x.dig)]], ?_,by simp [ledO]⟩
  unfold zeL zkg
  split
  ·split
   ·omega
   ·simp; omega
  ·omega
 ·have hd : decide ((k : Int) < (g.length : Int)) = false := by simp; omega
  (repeat' first | refine gq2 (zd hlen hd) ?_ | with_reducible first | exact ⟨⟩ | refine zh ?_ | fail)
  exact zpq (σ' := σ) (os := ledO σ.length g') (τ := τ) rfl rfl hl (low_ledO _ _) (.box _ _ (by simp)) (hK g')
end Go.Proofs.YtncpaekiidpchaaGreat

/- Headers, and records at their places: their bytes; chains. No program in sight. -/
namespace Go.AW
structure zcF where
 seq : Int
 prev : Int
 batch : Int
 root : Int
 state : Int
deriving DecidableEq
def zkD (h : zcF) : List Int := [h.seq,h.prev,h.batch,h.root,h.state]
abbrev hdrD (h : zcF) : List D := [.int .i64 h.seq, .int .i64 h.prev, .int .i64 h.batch, .int .i64 h.root, .int .i64 h.state]
abbrev hdrA (h : zcF) : AV := .agg [.d (.int .i64 h.seq), .d (.int .i64 h.prev), .d (.int .i64 h.batch), .d (.int .i64 h.root), .d (.int .i64 h.state)]
abbrev zeM (l : List zcF) : List (List D) := l.map hdrD
def zfQ (h : zcF) : Bool := (zkD h).all zcA
def zaH (h : zcF) : Int := if zfQ h = true then 0 else 90
def znl (h : zcF) : List UInt8 := 3 :: zgn (zkD h)
def hdrBF (h : zcF) : List UInt8 := if zaH h = 0 then znl h else []
theorem zdl {h : zcF} : zaH h = 0 ↔ zfQ h = true := by
 unfold zaH; split <;> simp_all
theorem zdE {h : zcF} (hk : zfQ h = true) : ∀ x ∈ zkD h, 0 ≤ x ∧ x ≤ 9007199254740992 := fun x hx => zdz.1 (List.all_eq_true.1 hk x hx)
theorem hdrB_len {h : zcF} (hk : zfQ h = true) : (znl h).length ≤ 51 := by
 have := zkr (l := zkD h) fun x hx => by have := zdE hk x hx; omega
 simp only [znl,zkD,List.length_cons,List.length_nil] at this ⊢
 omega
def linkF (L : List (List UInt8)) : Option zcF → zcF → Bool
 | none,_ => true
 | some q,h => match zcu L (znl q) with
  | some i => (h.prev == ((i + 1 : Nat) : Int)) && (h.seq == q.seq + 1)
  | none => false
def zlZ (L : List (List UInt8)) : Option zcF → List zcF → Bool
 | _, [] => true
 | p,h :: r => zfQ h && (linkF L p h && zlZ L (some h) r)
def zrn (L : List (List UInt8)) (l : List zcF) : Bool := zlZ L none l
structure zaI where
 topic : List UInt8
 offset : Int
 rec_ : List UInt8
abbrev zkq (p : zaI) : List D := [.str p.topic, .int .i64 p.offset, .slice (bcs p.rec_)]
abbrev zci (l : List zaI) : List (List D) := l.map zkq
def zam (p : zaI) : List UInt8 := zna p.topic ++ (zcm p.offset.toNat ++ zna p.rec_)
theorem chain_drop {L : List (List UInt8)} {p : Option zcF} {l : List zcF} {k : Nat} {h : zcF} (hx : l[k]? = some h) : zlZ L p (l.drop k) = (zfQ h && (linkF L p h && zlZ L (some h) (l.drop (k + 1)))) := by
 have hk : k < l.length := (List.getElem?_eq_some_iff.1 hx).1
 rw [List.drop_eq_getElem_cons hk,(List.getElem?_eq_some_iff.1 hx).2]
 rfl
end Go.AW
