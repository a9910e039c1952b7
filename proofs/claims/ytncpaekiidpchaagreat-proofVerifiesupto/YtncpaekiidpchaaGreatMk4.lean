/- Contracts: a leaf's proof, on both sides. -/
import Derived.Test.YtncpaekiidpchaaGreatMk3
set_option linter.all false
set_option maxRecDepth 100000
namespace Go.Proofs.YtncpaekiidpchaaGreat
open Go.AW
theorem zif {f : Nat} {L : List (List UInt8)} {i : Nat} {l : List (List UInt8)} (h : l.length ≤ 1) : zbo f L i l = ([],L) := by
 cases f with
 | zero => rfl
 | succ f => simp only [zbo]; rw [if_pos h]
theorem zfw : ∀ (f : Nat) {L : List (List UInt8)} {i : Nat} {l : List (List UInt8)},l.length ≤ f → L.length ≤ 1048576 → (zbo f L i l).2.length ≤ 1048576 ∧ (zbo f L i l).1.length ≤ l.length
 | 0,L,i,l,_,h => ⟨h,by simp [zbo]⟩
 | f + 1,L,i,l,hf,h => by
  by_cases h1 : l.length ≤ 1
  ·rw [zif h1]; exact ⟨h,by simp⟩
  ·have hs := zbB (n := l.length) (by omega)
   simp only [zbo]
   rw [if_neg h1]
   split
   ·have h2 := zfw f (L := L) (i := i) (l := l.take (zj l.length)) (by rw [List.length_take]; omega) h
    refine ⟨(zcz l.length (by rw [List.length_drop]; omega) h2.1).1, ?_⟩
    have := h2.2
    rw [List.length_take] at this
    simp only [List.length_append,List.length_cons,List.length_nil]
    omega
   ·have h2 := zfw f (L := L) (i := i - zj l.length) (l := l.drop (zj l.length)) (by rw [List.length_drop]; omega) h
    refine ⟨(zcz l.length (by rw [List.length_take]; omega) h2.1).1, ?_⟩
    have := h2.2
    rw [List.length_drop] at this
    simp only [List.length_append,List.length_cons,List.length_nil]
    omega
theorem zqU {f : Nat} {L : List (List UInt8)} {i : Nat} {l : List (List UInt8)} (h : 2 ≤ l.length) : zbo (f + 1) L i l =
  if i < zj l.length then ((zbo f L i (l.take (zj l.length))).1 ++ [(zbM (zbo f L i (l.take (zj l.length))).2 (l.drop (zj l.length))).1],(zbM (zbo f L i (l.take (zj l.length))).2 (l.drop (zj l.length))).2)
  else ((zbo f L (i - zj l.length) (l.drop (zj l.length))).1 ++ [(zbM (zbo f L (i - zj l.length) (l.drop (zj l.length))).2 (l.take (zj l.length))).1],(zbM (zbo f L (i - zj l.length) (l.drop (zj l.length))).2 (l.take (zj l.length))).2) := by
 simp only [zbo]
 rw [if_neg (by omega)]
def PathR (σ σ1 : List zh) (p : List Int) (K : KT) : Prop :=
 (p = [] → K (.tup [.exact [], .d (.int .i64 0)]) σ1) ∧ (p ≠ [] → K (.tup [.own σ.length (zaX p), .d (.int .i64 0)]) (σ1 ++ [.tok 1 p.length]))
theorem gq31 {P Q : Prop} (h : Q) (e : P = Q := by simp -dsimp only [↓zen, ↓zaw, ↓zba, ↓zeo, ↓zej, ↓zeh, ↓zek, ↓zei, ↓zbf, ↓zbb, ↓zbg, ↓zbc, ↓zel, ↓zaZ, ↓zbh, ↓zbd, ↓zbi, ↓zbe, ↓zeg, ↓zem, ↓zaY, ↓zbj, ↓zee, ↓zed, ↓zef,iN,bT,bF,eN, ↓zcI, ↓unC, ↓zV, ↓zJ, ↓zK, ↓zN, ↓zaa, ↓zas, ↓zbH, ↓zah, ↓zaV, ↓zQ, ↓zp, ↓zo, ↓zbr, ↓zk, ↓zag, ↓zG, ↓zaB, ↓zaF, ↓ze, ↓zE, ↓zr, ↓zw, ↓zam, ↓zcs, ↓zcM, ↓zak, ↓zat, ↓zaE, ↓zaJ, ↓zaP, ↓zu, ↓zai, ↓zL, ↓zA, ↓zab,zcT,zaU,zaT,unA,zcW,bnd,zds,zae,zR,zdv,dm,dm1,zC,zaj,zdH,zdG,zM,Q0,Q1,Q2,Q3,Q4,Q5,zT,zq,zx,zO,zI,Q6,Q7,Q8,Q9,Q10,Q11,Q12,Q13,Q14,Nat.reduceAdd,Q15,Int.reduceToNat,Q16,Q17,Q18,Q19,Q20,reduceIte,Q21,Q22,zF,rep,zY,zdD,toD,zad,Q23,Q24,Q25,Q26,Q27,Q28,Nat.reduceLeDiff,Q29,Nat.reduceSub,Q30,Q31,Q32,sc,Q33,Q34,Q35,Q36,Q37,Q26,Q38,Q39,zfZ,zfW,zfT,zga,zbR,zfX,zfU,zfY,zfV,zbQ,zbS,zgb,zgc,Bool.not_true,Bool.not_false,List.length_map,List.length_set]; rfl) : P := e.mpr h
theorem c_r5ProveA : ∀ (f : Nat) {σ : List zh} {id : Nat} {L l : List (List UInt8)} {i : Nat},l.length ≤ f → i < l.length → σ[id]? = some (rtO L) → L.length ≤ 1048576 → l.length ≤ 1073741824 → (∀ x ∈ l,x.length ≤ 1073740000) → ∀ {K : KT},
  PathR σ (σ.set id (rtO (zbo f L i l).2)) (zbo f L i l).1 K → zy Tryz.prog zfE [.box id 0, .d (.int .i64 i), .d (.slice (zcy l))] σ K := by
 intro f
 induction f with
 | zero => intros; omega
 | succ f ih =>
  intro σ id L l i hf hi hT hL hn hx K hK
  refine zcm zsf.is rfl (fun s => if s.length = σ.length then [] else [σ.length]) fun hl _ => zsf.goes ?_
  have hlen : (zcy l).length = l.length := List.length_map ..
  have d1 : decide ((i : Int) < 0) = false := by simp
  have d2 : decide ((i : Int) ≥ (l.length : Int)) = false := by simp; omega
  simp only [zsQ,iN,bT,bF,eN]
  by_cases h1 : l.length ≤ 1
  ·have e1 : ((l.length : Int) == 1) = true := by simp; omega
   rw [zif h1,zbC hT] at hK
   (repeat' first | refine gq2 (zc d1 (zc d2 (zc hlen e1))) ?_ | with_reducible first | exact ⟨⟩ | refine zg ?_ | fail)
   exact znr (by simp) hl rfl (hK.1 rfl)
  ·have h2 : 2 ≤ l.length := by omega
   have hs := zbB h2
   rw [zqU h2] at hK
   have e1 : ((l.length : Int) == 1) = false := by rw [beq_eq_false_iff_ne]; omega
   have htk : List.take (zj l.length) (zcy l) = zcy (l.take (zj l.length)) := by rw [zcy, ← List.map_take]
   have hdr : List.drop (zj l.length) (zcy l) = zcy (l.drop (zj l.length)) := by rw [zcy, ← List.map_drop]
   have htl : List.take l.length (zcy l) = zcy l := List.take_of_length_le (by omega)
   have hone : ∀ e ∈ zcy l,e.length = 1 := zgo (f := fun b => [D.slice (bcs b)]) (fun _ => rfl) l
   have hl1 : (l.take (zj l.length)).length = zj l.length := by rw [List.length_take]; omega
   have hl2 : (l.drop (zj l.length)).length = l.length - zj l.length := List.length_drop
   (repeat' first | refine gq2 (zc d1 (zc d2 (zc hlen e1))) ?_ | with_reducible first | exact ⟨⟩ | refine zg ?_ | fail)
   refine zoq (by omega) ?_
   have last : ∀ (A : List Int × List (List UInt8)) (R : Int × List (List UInt8)) (tk : zh),A.1.length ≤ l.length → PathR σ (σ.set id (rtO R.2)) (A.1 ++ [R.1]) K →
     zoP σ.length (fun s => if s.length = σ.length then [] else [σ.length]) K (some [.own σ.length (zaX A.1 ++ [[.int .i64 R.1]]), .d (.int .i64 0)]) (σ.set id (rtO R.2) ++ [.tok 1 (A.1.length + 1)]) := fun A R tk _ hR => by
    refine endsK_one (t := σ.length) (x := .tok 1 (A.1.length + 1)) (r := .tup [.own σ.length (zaX (A.1 ++ [R.1])), .d (.int .i64 0)]) (by simp) (by simp) (Nat.le_refl _) (by rw [List.getElem?_append_right (by simp)]; simp) (hl.setO (zeG _ _)) (by trivial) ?_ ?_
    ·simp [zcf,zcF,zie,zjO,idxK,zaX]
    ·have := hR.2 (by simp)
     simpa using this
   by_cases hc : i < zj l.length
   ·have hd : decide ((i : Int) < ((zj l.length : Nat) : Int)) = true := by simp; omega
    rw [if_pos hc] at hK
    obtain ⟨g1,g2⟩ := zfw f (L := L) (i := i) (l := l.take (zj l.length)) (by omega) hL
    (repeat' first | refine gq2 (zc hd (zc hlen htk)) ?_ | with_reducible first | exact ⟨⟩ | refine zg ?_ | fail)
    refine ih (i := i) (by omega) (by omega) hT hL (by omega) (fun z hz => hx z (List.mem_of_mem_take hz)) ?_
    obtain ⟨A,hA⟩ : ∃ A,zbo f L i (l.take (zj l.length)) = A := ⟨_,rfl⟩
    rw [hA] at hK g1 g2 ⊢
    have hT1 : (σ.set id (rtO A.2))[id]? = some (rtO A.2) := zbm hT
    refine ⟨fun hp => ?_,fun hp => ?_⟩
    ·have hlast := last A (zbM A.2 (l.drop (zj l.length))) (.tok 1 0) (by omega) hK
     rw [hp] at hlast
     (repeat' first | refine gq2 (zc hlen (zc htl hdr)) ?_ | with_reducible first | exact ⟨⟩ | refine zg ?_ | fail)
     refine zmq hT1 g1 (by omega) (fun z hz => hx z (List.mem_of_mem_drop hz)) ?_
     rw [List.set_set]
     (repeat' first | refine gq31 ?_ | with_reducible first | exact ⟨⟩ | refine zg ?_ | fail)
     exact hlast
    ·have hpl : (zaX A.1).length = A.1.length := List.length_map ..
     have hlast := last A (zbM A.2 (l.drop (zj l.length))) (.tok 1 0) (by omega) hK
     (repeat' first | refine gq2 (zc hlen (zc htl hdr)) ?_ | with_reducible first | exact ⟨⟩ | refine zg ?_ | fail)
     refine zmq (zf hT1) g1 (by omega) (fun z hz => hx z (List.mem_of_mem_drop hz)) ?_
     rw [zbD hT1,List.set_set]
     have hgt : ∀ X,(σ.set id X ++ [zh.tok 1 A.1.length])[σ.length]? = some (.tok 1 A.1.length) := fun X => by rw [List.getElem?_append_right (by simp)]; simp
     have hst : ∀ X Y,(σ.set id X ++ [zh.tok 1 A.1.length]).set σ.length Y = σ.set id X ++ [Y] := fun X Y => by rw [List.set_append_right _ _ (by simp)]; simp
     (repeat' first | refine gq2 (zc hpl (zc hgt hst)) ?_ | with_reducible first | exact ⟨⟩ | refine zg ?_ | fail)
     exact hlast
   ·have hd : decide ((i : Int) < ((zj l.length : Nat) : Int)) = false := by simp; omega
    have hw2 : IntKind.i64.wrap ((i : Int) - ((zj l.length : Nat) : Int)) = ((i - zj l.length : Nat) : Int) := by rw [zP (by omega) (by omega)]; omega
    rw [if_neg hc] at hK
    obtain ⟨g1,g2⟩ := zfw f (L := L) (i := i - zj l.length) (l := l.drop (zj l.length)) (by omega) hL
    (repeat' first | refine gq2 (zc hd (zc hw2 (zc hlen (zc htl hdr)))) ?_ | with_reducible first | exact ⟨⟩ | refine zg ?_ | fail)
    refine ih (i := i - zj l.length) (by omega) (by omega) hT hL (by omega) (fun z hz => hx z (List.mem_of_mem_drop hz)) ?_
    obtain ⟨A,hA⟩ : ∃ A,zbo f L (i - zj l.length) (l.drop (zj l.length)) = A := ⟨_,rfl⟩
    rw [hA] at hK g1 g2 ⊢
    have hT1 : (σ.set id (rtO A.2))[id]? = some (rtO A.2) := zbm hT
    refine ⟨fun hp => ?_,fun hp => ?_⟩
    ·have hlast := last A (zbM A.2 (l.take (zj l.length))) (.tok 1 0) (by omega) hK
     rw [hp] at hlast
     (repeat' first | refine gq2 (zc hlen htk) ?_ | with_reducible first | exact ⟨⟩ | refine zg ?_ | fail)
     refine zmq hT1 g1 (by omega) (fun z hz => hx z (List.mem_of_mem_take hz)) ?_
     rw [List.set_set]
     (repeat' first | refine gq31 ?_ | with_reducible first | exact ⟨⟩ | refine zg ?_ | fail)
     exact hlast
    ·have hpl : (zaX A.1).length = A.1.length := List.length_map ..
     have hlast := last A (zbM A.2 (l.take (zj l.length))) (.tok 1 0) (by omega) hK
     (repeat' first | refine gq2 (zc hlen htk) ?_ | with_reducible first | exact ⟨⟩ | refine zg ?_ | fail)
     refine zmq (zf hT1) g1 (by omega) (fun z hz => hx z (List.mem_of_mem_take hz)) ?_
     rw [zbD hT1,List.set_set]
     have hgt : ∀ X,(σ.set id X ++ [zh.tok 1 A.1.length])[σ.length]? = some (.tok 1 A.1.length) := fun X => by rw [List.getElem?_append_right (by simp)]; simp
     have hst : ∀ X Y,(σ.set id X ++ [zh.tok 1 A.1.length]).set σ.length Y = σ.set id X ++ [Y] := fun X Y => by rw [List.set_append_right _ _ (by simp)]; simp
     (repeat' first | refine gq2 (zc hpl (zc hgt hst)) ?_ | with_reducible first | exact ⟨⟩ | refine zg ?_ | fail)
     exact hlast
theorem c_r5Prove {σ : List zh} {id : Nat} {L l : List (List UInt8)} {i : Nat} (hi : i < l.length) (hT : σ[id]? = some (rtO L)) (hL : L.length ≤ 1048576) (hn : l.length ≤ 1073741824) (hx : ∀ x ∈ l,x.length ≤ 1073740000) {K : KT}
  (hK : PathR σ (σ.set id (rtO (zbo l.length L i l).2)) (zbo l.length L i l).1 K) : zy Tryz.prog zfE [.box id 0, .d (.int .i64 i), .d (.slice (zcy l))] σ K := c_r5ProveA l.length (Nat.le_refl _) hi hT hL hn hx hK
end Go.Proofs.YtncpaekiidpchaaGreat
