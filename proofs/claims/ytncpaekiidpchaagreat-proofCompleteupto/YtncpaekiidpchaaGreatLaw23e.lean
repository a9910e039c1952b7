/- The law ProofComplete, from the contracts. -/
import Derived.Test.YtncpaekiidpchaaGreatHi2
import Derived.Test.YtncpaekiidpchaaGreatHi5
import Derived.Test.YtncpaekiidpchaaGreatSpNv
import Derived.Test.YtncpaekiidpchaaGreatBase
set_option linter.all false
set_option maxRecDepth 100000
namespace Go.Proofs.YtncpaekiidpchaaGreat
open Go.AW
theorem stF_U {q : zkY} (hq : okC q) : UqI (stF (ksF q) q.bats) :=
 foldUq (bats := q.bats.take 20) uq0 st0I (fun l hl => hq.ops l (List.mem_of_mem_take hl)) (zgs _ _)
theorem first_head {p : zaU} {h : zcF} (hh : p.headers.head? = some h) : firstF p = h.seq := by
 unfold firstF
 split
 ·rename_i e; rw [e] at hh; simp at hh
 ·rename_i x r e; rw [e] at hh; simp at hh; rw [hh]
theorem ksF_rng {q : zkY} (h0 : ¬ (q.f < 1 ∨ q.f > 4)) : ∀ k ∈ ksF q, 0 ≤ k ∧ k < zbP 3 q.f := fun k hk => by
 have ht : zbP 3 q.f = 3 * q.f + 1 := by rw [zbP,if_neg h0]
 simp only [ksF,memF,memN,List.mem_filter] at hk
 have h2 := hk.2
 rw [in_both,Bool.and_eq_true] at h2
 have h3 := h2.2
 rw [in_all (by omega)] at h3
 simp only [decide_eq_true_eq] at h3
 omega
def zhG : List (Bool × List Ty) := [(true,tyCase)]
theorem gq58 {A P Q : Prop} (a : A) (h : Q) (e : A → P = Q := by intro a; simp -dsimp only [↓zey, ↓zau, ↓zbj, ↓zeA, ↓zes, ↓zeq, ↓zet, ↓zer, ↓zbo, ↓zbk, ↓zbp, ↓zbl, ↓zeu, ↓zbi, ↓zbq, ↓zbm, ↓zbr, ↓zbn, ↓zep, ↓zew, ↓zbh, ↓zbs, ↓zeg, ↓zef, ↓zeo,iN,bT,bF,eN, ↓zcS, ↓unC, ↓zW, ↓zK, ↓zL, ↓zN, ↓zZ, ↓zaw, ↓zbT, ↓zag, ↓zbu, ↓zP, ↓zq, ↓zo, ↓zby, ↓zl, ↓zaf, ↓zH, ↓zaC, ↓zaG, ↓ze, ↓zC, ↓zt, ↓zw, ↓zan, ↓zcC, ↓zdb, ↓zal, ↓zat, ↓zaF, ↓zaP, ↓zaW, ↓zu, ↓zai, ↓zM, ↓zA, ↓zaa,zdi,zbd,zba,unA,zdk,bnd,zdw,zac,zS,zdy,dm,dm1,zB,zak,zdP,zdO,zQ,Q0,Q1,Q2,Q3,Q4,Q5,zR,zr,zy,zO,zI,Q6,Q7,Q8,Q9,Q10,Q11,Q12,Q13,Q14,Nat.reduceAdd,Q15,Int.reduceToNat,Q16,Q17,Q18,Q19,Q20,reduceIte,Q21,Q22,zE,rep,zV,zdG,toD,zab,Q23,Q24,Q25,Q26,Q27,Q28,Nat.reduceLeDiff,Q29,Nat.reduceSub,Q30,Q31,Q32,sc,Q33,Q34,Q35,Q36,Q37,Q26,Q38,Q39,zgH,zgE,zgB,zgI,zcf,zgF,zgC,zgG,zgD,zce,zcg,zgJ,zgK,Bool.not_true,Bool.not_false,List.length_map,zkq,a]; rfl) : P := (e a).mpr h
set_option maxHeartbeats 4000000 in
theorem zoO (xs : List AV) (n : Nat) (hn : n ≤ 1048576) (h : ArgsOk zhG xs n) : zD Tryz.prog zen xs [] fun r _ => r = .d (.bool true) := by
 obtain ⟨ds,xs1,m1,hf,hb1,rfl,rfl⟩ := h
 obtain ⟨q,rfl,hq⟩ := dec_case hf (by omega)
 show zD Tryz.prog zen [caseA q] [] _
 obtain ⟨hH,hH2⟩ := stF_H hq (by omega)
 have hU := stF_U hq
 clear hf hb1
 obtain ⟨σ,hσ⟩ : ∃ σ : List zg,([] : List zg) = σ := ⟨_,rfl⟩
 have hσr : ∀ x ∈ σ, ∀ g sz cs,x ≠ .row g sz cs := by subst hσ; simp
 rw [hσ]
 clear hσ
 refine zj zhj.is rfl fun hl _ => zhj.goes ?_
 simp only [zhw,iN,bT,bF,eN]
 (repeat' first | refine gq1 ?_ | with_reducible first | exact ⟨⟩ | refine zh ?_ | fail)
 refine c_live23 (fun y hy => ?_) ?_
 ·rcases List.mem_append.1 hy with hy | hy
  ·exact hσr y hy
  ·simp only [List.mem_cons,List.not_mem_nil,or_false] at hy
   subst hy
   intro _ _ _ e; cases e
 (repeat' first | refine gq1 ?_ | with_reducible first | exact ⟨⟩ | refine zh ?_ | fail)
 obtain ⟨ρ,hρ⟩ : ∃ ρ, σ ++ [.box (ziR q)] = ρ := ⟨_,rfl⟩
 have r0 : ρ[σ.length]? = some (.box (ziR q)) := by rw [← hρ,zy]; rfl
 have hlρ : ρ.length = σ.length + 1 := by rw [← hρ]; simp
 rw [hρ]
 refine begun_case' hq fun S hE => ?_
 have hI := stF_I' hq
 obtain ⟨s,hs⟩ : ∃ s,stF (ksF q) q.bats = s := ⟨_,rfl⟩
 rw [hs] at hE hI hH hH2 hU
 have c1' := hE.rest _ _ r0 (fun _ _ _ e => by cases e)
 have st0' : S[ρ.length + 9]? = _ := hE.st
 have hcl : (zfG s.cs).length = s.cs.length := List.length_map ..
 have hbl : (zcn s.bs).length = s.bs.length := List.length_map ..
 have i1 := hI.bl
 have i2 := hI.cl
 have hG : s.G.length ≤ 1073741824 := by have := hI.led; omega
 (repeat' first | refine gq2 c1' ?_ | with_reducible first | exact ⟨⟩ | refine zh ?_ | fail)
 refine c_rAll ?_
 (repeat' first | refine gq2 c1' ?_ | with_reducible first | exact ⟨⟩ | refine zh ?_ | fail)
 refine c_rBoth hq.voters (zrB _) ?_
 (repeat' first | refine gq2 c1' ?_ | with_reducible first | exact ⟨⟩ | refine zh ?_ | fail)
 refine c_rMany (zoX _ _) ?_
 rw [show memF (zuw q.voters (allF (zbP 3 q.f).toNat)) = ksF q from rfl]
 (repeat' first | refine gq2 c1' ?_ | with_reducible first | exact ⟨⟩ | refine zh ?_ | fail)
 refine c_rBig ?_
 have fin : ∀ S',StE ρ s s.L s.G S' → AW.Ends σ.length (fun r _ => r = .d (.bool true)) (some [.d (.bool true)]) S' := fun S' h => zqW (zqo fun j x hx => h.rest j x (by rw [← hρ]; exact zf hx) (hσr x (List.mem_of_getElem? hx))) (by simp [zdh,dmT,dm,dm1,zca]) hl rfl
 cases hm : decide (((ksF q).length : Int) < zbP 2 q.f)
 rotate_left
 ·(repeat' first | refine gq2 hm ?_ | with_reducible first | exact ⟨⟩ | refine zh ?_ | fail)
  exact fin _ hE
 (repeat' first | refine gq2 (zd hm c1') ?_ | with_reducible first | exact ⟨⟩ | refine zh ?_ | fail)
 refine zrp ?_
 by_cases h0 : q.f < 1 ∨ q.f > 4
 ·rw [zcP,if_pos h0]
  (repeat' first | refine gq2 (show ((120 : Int) != 0) = true from rfl) ?_ | with_reducible first | exact ⟨⟩ | refine zh ?_ | fail)
  exact fin _ hE
 have hck : zcP q.f = 0 := by rw [zcP,if_neg h0]
 rw [hck]
 have hms : zbP 2 q.f ≤ ((ksF q).length : Int) := by simpa using hm
 (repeat' first | refine gq2 (zd (show ((0 : Int) != 0) = false from rfl) (zd st0' hcl)) ?_ | with_reducible first | exact ⟨⟩ | refine zh ?_ | fail)
 refine zG s.cs.length (fun k vs S => vs = [.d (.int .i64 k)] ∧ StE ρ s s.L s.G S) ⟨rfl,hE⟩ ?_
 rintro k vs S1 hk ⟨rfl,hE1⟩
 by_cases hlt : k < s.cs.length
 rotate_left
 ·have hd : decide ((k : Int) < (s.cs.length : Int)) = false := by simp; omega
  (repeat' first | refine gq2 (zd hd hcl) ?_ | with_reducible first | exact ⟨⟩ | refine zh ?_ | fail)
  exact fin _ hE1
 have hd : decide ((k : Int) < (s.cs.length : Int)) = true := by simp; omega
 have hx1 : s.cs[k]? = some s.cs[k] := by simp [hlt]
 have hcm := List.getElem_mem hlt
 have hgx := zae (f := certD) hx1
 obtain ⟨c,hc⟩ : ∃ c,s.cs[k] = c := ⟨_,rfl⟩
 rw [hc] at hgx hcm
 have hc13 := hI.cs c hcm
 have hwk : IntKind.i64.wrap ((k : Int) + 1) = ((k + 1 : Nat) : Int) := by rw [zX (by omega) (by omega)]; rfl
 have st1 : ∀ τ,(S1 ++ τ)[ρ.length + 9]? = _ := fun τ => zf hE1.st
 have hl1 := zF hE1.st
 (repeat' first | refine gq57 (zd hd (zd hgx (zd hcl (zd st1 hbl)))) ?_ | with_reducible first | exact ⟨⟩ | refine zh ?_ | fail)
 refine zG s.bs.length (fun j vs S => vs = [.d (.int .i64 j)] ∧ StE ρ s s.L s.G S ∧ S[S1.length]? = some (.box [.d (.int .i64 c.seq), .d (.int .i64 c.dig), .d (.slice (zaz c.signs))])) ⟨rfl,hE1.app _,by rw [zy]; rfl⟩ ?_
 rintro j vs S2 hj ⟨rfl,hE2,hH0⟩
 by_cases hjl : j < s.bs.length
 rotate_left
 ·have hd : decide ((j : Int) < (s.bs.length : Int)) = false := by simp; omega
  (repeat' first | refine gq2 (zd hd (zd hbl hwk)) ?_ | with_reducible first | exact ⟨⟩ | refine zh ?_ | fail)
  exact zav.next hlt ⟨rfl,hE2⟩
 have hd : decide ((j : Int) < (s.bs.length : Int)) = true := by simp; omega
 have hx2 : s.bs[j]? = some s.bs[j] := by simp [hjl]
 have hbm := List.getElem_mem hjl
 have hgb := zae (f := znK) hx2
 obtain ⟨b,hbe⟩ : ∃ b,s.bs[j] = b := ⟨_,rfl⟩
 rw [hbe] at hgb hbm
 have hbx := hI.bs b hbm
 have hpl : (zci b.placed).length = b.placed.length := List.length_map ..
 have hpl2 := hbx.len
 have hwj : IntKind.i64.wrap ((j : Int) + 1) = ((j + 1 : Nat) : Int) := by rw [zX (by omega) (by omega)]; rfl
 have hl2 := zF hH0
 (repeat' first | refine gq2 (zd hd (zd hgb (zd hbl hpl))) ?_ | with_reducible first | exact ⟨⟩ | refine zh ?_ | fail)
 refine zG b.placed.length (fun t vs S => vs = [.d (.int .i64 t)] ∧ StE ρ s s.L s.G S ∧ S[S1.length]? = some (.box [.d (.int .i64 c.seq), .d (.int .i64 c.dig), .d (.slice (zaz c.signs))]) ∧ S[S2.length]? = some (blockO b)) ⟨rfl,hE2.app _,zf hH0,by rw [zy]; rfl⟩ ?_
 rintro t vs S3 ht ⟨rfl,hE3,hH1,hO1⟩
 by_cases htl : t < b.placed.length
 rotate_left
 ·have hd : decide ((t : Int) < (b.placed.length : Int)) = false := by simp; omega
  (repeat' first | refine gq2 (zd hd (zd hpl hwj)) ?_ | with_reducible first | exact ⟨⟩ | refine zh ?_ | fail)
  exact zav.next hjl ⟨rfl,hE3,hH1⟩
 have hd : decide ((t : Int) < (b.placed.length : Int)) = true := by simp; omega
 have hx3 : b.placed[t]? = some b.placed[t] := by simp [htl]
 have hrm := List.getElem_mem htl
 have hgr := zae (f := zkq) hx3
 obtain ⟨r,hre⟩ : ∃ r,b.placed[t] = r := ⟨_,rfl⟩
 rw [hre] at hgr hrm
 have hrx := hbx.each r hrm
 have hwt : IntKind.i64.wrap ((t : Int) + 1) = ((t + 1 : Nat) : Int) := by rw [zX (by omega) (by omega)]; rfl
 obtain ⟨m1,m2,m3,m4,m5⟩ := zqI (L := s.L) (l := s.bs) (c := c) (t := r.topic) (o := r.offset) hI.tab hI.bs (by omega) (by omega) hrx.topic hrx.off
 obtain ⟨n1,n2,n3⟩ := zsc hH hU st0_h.1 (by omega) (by omega) hck (memF_sorted _) (ksF_rng h0) (zgs _ _) hms hcm hbm hrm
 obtain ⟨M,hM⟩ : ∃ M,zdL s.L s.bs c r.topic r.offset = M := ⟨_,rfl⟩
 rw [hM] at m1 m2 m3 m4 m5 n1 n2 n3
 have st3 : ∀ τ,(S3 ++ τ)[ρ.length + 9]? = _ := fun τ => zf hE3.st
 have d3 : ∀ τ,(S3 ++ τ)[σ.length]? = _ := fun τ => zf (hE3.rest _ _ r0 (fun _ _ _ e => by cases e))
 have h3' : ∀ τ,(S3 ++ τ)[S1.length]? = _ := fun τ => zf hH1
 have o3' : ∀ τ,(S3 ++ τ)[S2.length]? = _ := fun τ => zf hO1
 have hself : ∀ τ,putTab (S3 ++ τ) (ρ.length + 4) (ρ.length + 3) (ρ.length + 5) M.2.2 = S3 ++ τ := fun τ => by rw [n1]; exact (hE3.tab.app τ).self
 have q1 : ∀ x : Int,(x != x) = false := fun x => by simp
 (repeat' first | refine gq58 (zd hd (zd hgr (zd hpl (zd st3 h3')))) ?_ | with_reducible first | exact ⟨⟩ | refine zh ?_ | fail)
 refine ⟨?_, ?_⟩
 rotate_left
 (repeat' first | refine gq2 (zd st3 h3') ?_ | with_reducible first | exact ⟨⟩ | refine zh ?_ | fail)
 all_goals
  refine zup (L := s.L) (l := s.bs) (c := c) (hE3.tab.app _) hI.tab (by omega) hI.bs (by omega) ?_
  rw [hM,hself]
  by_cases hgt : b.header.seq > c.seq
  ·have hg1 : decide (b.header.seq > c.seq) = true := decide_eq_true hgt
   rw [n2 (by omega)]
   (repeat' first | refine gq2 (zd h3' (zd o3' (zd hg1 (zd q1 hwt)))) ?_ | with_reducible first | exact ⟨⟩ | refine zh ?_ | fail)
   exact zav.next htl ⟨rfl,hE3.app _,h3' _,o3' _⟩
  ·have hg1 : decide (b.header.seq > c.seq) = false := decide_eq_false hgt
   obtain ⟨v1,v2,v3⟩ := n3 (by omega)
   rw [v1]
   (repeat' first | refine gq2 (zd h3' (zd o3' (zd hg1 q1))) ?_ | with_reducible first | exact ⟨⟩ | refine zh ?_ | fail)
   refine c_pfBlock ?_
   rw [first_head v2]
   (repeat' first | refine gq2 (zd o3' (zd q1 (zd st3 d3))) ?_ | with_reducible first | exact ⟨⟩ | refine zh ?_ | fail)
   refine zdM (p := M.2.1) (f := q.f) (hE3.tab.app _) (hE3.led.app _) hI.tab hG m1 ?_
   rw [v3]
   (repeat' first | refine gq2 (zd q1 hwt) ?_ | with_reducible first | exact ⟨⟩ | refine zh ?_ | fail)
   exact zav.next htl ⟨rfl,hE3.app _,h3' _,o3' _⟩
end Go.Proofs.YtncpaekiidpchaaGreat

/- ProofComplete: for every input of bulk at most 1048576 the law answers true and leaves its arguments as they were. No condition beside the given row's. -/
set_option maxRecDepth 100000
namespace Go.Proofs.YtncpaekiidpchaaGreat
open Go.AW Go.ChangeShapes Go.WideShapes Go.ChangeAt Go.RowKit
theorem zmp {H : Type} {enc : TypeId × Value → H} {P : Program} {w : World} {sp : Nat → Bool} {held : Bool} {vs : List Value} {ds gs : List (DataW H)} {ps : List MemPlace} {ts : List TypeId} (hl : ts.length = 1)
  (h : DataW.TrodAll enc P w 0 sp held ts vs ds ps) (hg : gs = []) : (Rows.proofCompleteSpec).fn H (ds ++ gs) = { results := [.lit (.bool true)],args := ds } := by
 subst hg
 have hd : ds.length = 1 := by
  have : ∀ (ts : List TypeId) (vs : List Value) (ds : List (DataW H)) (ps : List MemPlace),DataW.TrodAll enc P w 0 sp held ts vs ds ps → ds.length = ts.length := by
   intro ts
   induction ts with
   | nil => intro vs ds ps h; cases vs <;> cases ds <;> simp [DataW.TrodAll] at h ⊢
   | cons t ts ih =>
    intro vs ds ps h
    obtain ⟨v,vs',d,ds',p,q,rfl,rfl,rfl,h1,h2⟩ := trodAll_cons h
    simp [ih vs' ds' q h2]
  rw [this ts vs ds ps h,hl]
 rw [List.append_nil]
 match ds,hd with
 | [_],_ => rfl
theorem zlG (os : Os) (started : os.Started) (H : Type) (enc : TypeId × Value → H) (F : Stop.Interp) :
  ReturnsInHanded {} Tryz.checked os 6 .any ((Rows.OpenSpec.upto Rows.proofCompleteSpec).pre6 enc Tryz.prog Tryz.f6 Rows.proofCompleteUptoRow.domain false) (((Rows.OpenSpec.upto Rows.proofCompleteSpec).at F).post enc Tryz.prog Tryz.f6 false true false false) := by
 refine returnsInHanded_of_cond (C := Tryz.checked) (s := Rows.OpenSpec.upto Rows.proofCompleteSpec) (k := Rows.uptoSmall) rfl own started (by kernel_rfl) Tryz.func6
  (OpenSpec.witness (enc := enc) (C := Tryz.checked) (s := Rows.OpenSpec.upto Rows.proofCompleteSpec) (k := Rows.uptoSmall) rfl false ⟨#[], #[(.agg #[(.int .i64 0),(.slice none 0 0),(.int .u16 0),(.slice none 0 0),(.string .empty),(.int .i64 0),(.slice none 0 0)])], []⟩ 24 (by kernel_rfl) (by kernel_rfl) (by kernel_rfl)
   (x := ([(.agg [(.lit (.int .i64 0)), .nil,(.lit (.int .u16 0)), .nil,(.lit (.string [])),(.lit (.int .i64 0)), .nil])], [], [])) (by kernel_rfl) rfl (by kernel_rfl)) ?_
 intro W base args ds gs before hval hW _ hk _
 have hW0 : DataW.Whole enc Tryz.prog Tryz.f6.params.toList (Rows.proofCompleteSpec).vars false W args.toList ds gs before := hW
 have hg : gs = [] := by
  obtain ⟨p,q,hA,hV,_⟩ := hW0
  cases gs with
  | nil => rfl
  | cons => simp [Rows.proofCompleteSpec,DataW.TrodVars] at hV
 refine law_calls isBulk hval hW0 (pars := zhG) (by kernel_rfl) rfl (by obtain ⟨p,q,hA,_⟩ := hW0; exact zmp (by kernel_rfl) hA hg) laidOut mapsLaid slicesFull (by kernel_rfl) (tb := 4) (by kernel_rfl) (by kernel_rfl) fun xs has => zoO xs _ ?_ has
 have := small hk
 rw [hg,List.append_nil] at this
 exact this
theorem proofComplete_upto : Rows.ProofCompleteUptoSaid :=
 OpenClaim.holds_of_cond 6 Tryz.f6 rfl rfl rfl rfl rfl rfl rfl ⟨rfl,rfl,rfl,rfl,rfl⟩ rfl rfl rfl rfl rfl (by kernel_rfl) Tryz.func6 (by kernel_rfl)
  (of_decide_eq_true (by kernel_rfl)) (by unfold Func.isWrapper; first | (rw [if_pos (by decide +kernel)]; kernel_rfl) | (rw [if_neg (by decide +kernel)]; exact ⟨rfl,rfl⟩))
  (fun os started H enc _ F => zlG os started H enc F)
end Go.Proofs.YtncpaekiidpchaaGreat
