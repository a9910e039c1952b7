/- Contracts: publishers made, and not made. -/
import Derived.Test.YtdgcepphjnoalaaGreatCk3
import Derived.Test.YtdgcepphjnoalaaGreatSpPrg
set_option linter.all false
set_option maxRecDepth 100000
set_option linter.unusedSimpArgs false
set_option linter.unusedVariables false
namespace Go.Proofs.YtdgcepphjnoalaaGreat
open Go.AW

theorem c_tNoneNil {σ : List zc} {K : AV → List zc → Prop} (hK : K (.d (.bool true)) σ) : zl Tryz.prog zbo [.d .nilp] σ K := by
  refine zfT zhe fun hl => ?_
  simp only [zeU, iN, bT, bF, eN]
  refine zaP ?_
  refine zap hl ?_
  exact hK
theorem c_tCloneNil {σ : List zc} {K : AV → List zc → Prop} (hK : K (.d .nilp) σ) : zl Tryz.prog zbA [.d .nilp] σ K := by
  refine zfT zey fun hl => ?_
  simp only [zez, iN, bT, bF, eN]
  refine zaP ?_
  refine c_tNoneNil ?_
  refine zaP ?_
  refine zap hl ?_
  exact hK
theorem c_gNoneNil {σ : List zc} {K : AV → List zc → Prop} (hK : K (.d (.bool true)) σ) : zl Tryz.prog zbk [.d .nilp] σ K := by
  refine zfT zgL fun hl => ?_
  simp only [zeA, iN, bT, bF, eN]
  refine zaP ?_
  refine zap hl ?_
  exact hK
theorem c_gCloneNil {σ : List zc} {K : AV → List zc → Prop} (hK : K (.d .nilp) σ) : zl Tryz.prog zaU [.d .nilp] σ K := by
  refine zfT zbT fun hl => ?_
  simp only [zcV, iN, bT, bF, eN]
  refine zaP ?_
  refine c_gNoneNil ?_
  refine zaP ?_
  refine zap hl ?_
  exact hK
abbrev zlT (f cl : Int) (t l : Nat) (time : Int) (w : List zt) (sy : AV) (ticks : Int) (la : List (List D)) (many : Int) : List AV :=
  [.d (.bool true), .d (.int .i64 f), .d (.int .i64 cl), .box t 0, .box l 0, .d (.int .i64 time), .d (.slice (zcR w)), sy, .d (.int .i64 ticks), .d (.slice la), .d (.int .i64 many)]
theorem zmq {σ S : List zc} {K : AV → List zc → Prop} {l : List AV} (h : S.take σ.length = σ) (h1 : Low σ.length (dmT (zdg l))) (hl : zfz σ.length σ) (hK : K (dmT (zdg l)) σ) : AW.Ends σ.length K (some l) S := by
  unfold AW.Ends
  rw [h]
  exact ⟨h1, hl, hK⟩
section

variable {σ : List zc} {K : AV → List zc → Prop}

theorem c_pNewNilT {a b : Int} {id : Nat} (hK : K (.tup [.d .nilp, .d (.int .i64 2)]) σ) : zl Tryz.prog zct [.d (.int .i64 a), .d (.int .i64 b), .d .nilp, .box id 0] σ K := by
  refine acE4 zeP fun hl => ?_
  simp only [zeS, iN, bT, bF, eN]
  refine zaP ?_
  refine c_tCloneNil ?_
  refine zaP ?_
  refine zap hl ?_
  exact hK
theorem c_pNewNilG {a b : Int} {id m t : Nat} (hT : zdT σ id m t []) (hK : K (.tup [.d .nilp, .d (.int .i64 2)]) σ) : zl Tryz.prog zct [.d (.int .i64 a), .d (.int .i64 b), .box id 0, .d .nilp] σ K := by
  refine acE4 zeP fun hl => ?_
  simp only [zeS, iN, bT, bF, eN]
  refine zaP ?_
  refine znI hT .nil (by simp) (by simp) ?_
  refine zaP ?_
  refine c_gCloneNil ?_
  refine zaP ?_
  refine zap hl ?_
  exact hK
theorem c_pNew {i : TGi} {f cl : Int} {L : List (List UInt8)} {G : List zS} (h : TG i σ L G) (hL : znL L) (hg : G.length ≤ 1073741824) (hf : zqg f = 0) (h0 : 0 ≤ cl) (h8 : cl < 8)
    (hK : ∀ S q, σ.length ≤ q → S[q]? = some (.box (zlT f cl i.id i.id2 0 [] (.d .nilmap) 0 [] 0)) → (∀ (j : Nat) (x : zc), σ[j]? = some x → S[j]? = some x) → K (.tup [.box q 0, .d (.int .i64 0)]) S) :
    zl Tryz.prog zct [.d (.int .i64 f), .d (.int .i64 cl), .box i.id 0, .box i.id2 0] σ K := by
  refine zl.weaken ?_
  refine zoR zeP.is rfl fun hl _ => zeP.goes ?_
  simp only [zeS, iN, bT, bF, eN]
  have d1 : decide (cl < 0) = false := by simp; omega
  have d2 : decide (cl ≥ 8) = false := by simp; omega
  refine zaP ?_
  refine znI h.tab hL.nd hL.len hL.each ?_
  refine zaP ?_
  refine c_gClone (h.led.app _) hg fun g' => ?_
  refine zaP ?_
  refine c_quCheck ?_
  rw [hf]
  refine zbi (zj d1 (zj d2 (show ((0 : Int) != 0) = false from rfl))) ?_
  obtain ⟨R, hR⟩ : ∃ R, σ ++ [zc.map (tabM L), zc.box [AV.own (σ.length + 2) (tabE L), AV.map σ.length], zc.tok 1 L.length, zc.map (zpV g'), zc.box [AV.own (σ.length + 5) (ledE g'), AV.map (σ.length + 3)], zc.tok 2 g'.length] = R := ⟨_, rfl⟩
  have hRl : R.length = σ.length + 6 := by rw [← hR]; simp
  have hRp : ∀ (j : Nat) (x : zc), σ[j]? = some x → ∀ τ, (R ++ τ)[j]? = some x := fun j x hx τ => zy (by rw [← hR]; exact zy hx)
  rw [show ∀ X : zc, σ ++ [zc.map (tabM L), zc.box [AV.own (σ.length + 2) (tabE L), AV.map σ.length], zc.tok 1 L.length, zc.map (zpV g'), zc.box [AV.own (σ.length + 5) (ledE g'), AV.map (σ.length + 3)], zc.tok 2 g'.length, X] = R ++ [X] from fun X => by rw [← hR]; simp, ← hRl]
  refine endsA ⟨.tup [.box R.length 0, .d (.int .i64 0)], R ++ [.box (zlT f cl i.id i.id2 0 [] (.d .nilmap) 0 [] 0)], ?_, hK _ R.length (by omega) (by rw [zu]; rfl) fun j x hx => hRp j x hx _⟩
  refine .dataB R.length 6 _ (.exact []) [] (by rw [zu]; rfl) rfl rfl ?_
  rw [zG]
  refine .dataB R.length 9 _ (.exact []) [] (by rw [zu]; rfl) rfl rfl ?_
  rw [zG]
  exact .refl _ _
abbrev zeW (l : List (Int × Int × Int)) : List (AV × AV) := l.map fun e => (.d (.int .i64 e.1), .agg [.d (.int .i64 e.2.1), .d (.int .i64 e.2.2)])
theorem zmz {f cl : Int} {q t l : Nat} {time : Int} {w : List zt} {sy : AV} {ticks : Int} {la : List (List D)} {many : Int} (h : σ[q]? = some (.box (zlT f cl t l time w sy ticks la many))) (hK : K (.d (.bool false)) σ) : zl Tryz.prog zx [.box q 0] σ K := by
  refine zfT zdV fun hl => ?_
  simp only [zcE, iN, bT, bF, eN]
  refine zbi h ?_
  refine zap hl ?_
  exact hK
theorem says_get {l : List (Int × Int × Int)} {i : Nat} {e : AV × AV} (h : (zeW l)[i]? = some e) : ∃ x, l[i]? = some x ∧ e = (.d (.int .i64 x.1), .agg [.d (.int .i64 x.2.1), .d (.int .i64 x.2.2)]) := by
  simp only [zeW, List.getElem?_map] at h
  obtain ⟨x, h1, h2⟩ := Option.map_eq_some_iff.1 h
  exact ⟨x, h1, h2.symm⟩
def zqD (l : List (Int × Int × Int)) (a b : Int) : Nat := l.countP fun e => (a == e.2.1) && (b == e.2.2)
theorem c_pVotes {f cl : Int} {q t l n : Nat} {time : Int} {w : List zt} {ticks : Int} {la : List (List D)} {many a b : Int} {sy : List (Int × Int × Int)} (h : σ[q]? = some (.box (zlT f cl t l time w (.map n) ticks la many))) (hn : σ[n]? = some (.map (zeW sy))) (hb : sy.length ≤ 1000000)
    (hK : K (.d (.int .i64 (zqD sy a b))) σ) : zl Tryz.prog zaM [.box q 0, .agg [.d (.int .i64 a), .d (.int .i64 b)]] σ K := by
  refine zjc zdK fun hl => ?_
  have hq : ∀ τ, (σ ++ τ)[q]? = some (.box (zlT f cl t l time w (.map n) ticks la many)) := fun τ => zy h
  have hn' : ∀ τ, (σ ++ τ)[n]? = some (.map (zeW sy)) := fun τ => zy hn
  have hnl := zbR hn
  have hlen : (zeW sy).length = sy.length := List.length_map ..
  simp only [zcz, iN, bT, bF, eN]
  refine zaP ?_
  refine zmz (hq _) ?_
  refine zbi hq ?_
  simp only [zji, hn']
  intro c bs hbl hbn
  rw [hlen] at hbl
  obtain ⟨X, hX⟩ : ∃ X, zc.box [.d (.int .i64 a), .d (.int .i64 b)] = X := ⟨_, rfl⟩
  rw [hX]
  refine zae sy.length (fun k vs S => ∃ seen ys T, vs = [.d (.int .i64 (zqD ys a b))] ∧ seen.length = k ∧ ziM bs sy seen ys ∧ seen.Nodup ∧ S = (σ.set n (.mapr c bs (zeW sy)) ++ X :: .mit (some n) c seen :: T)) ⟨[], [], [], rfl, rfl, .nil, .nil, by rw [List.set_append_left _ _ hnl]; simp⟩ ?_
  rintro k vs S hk ⟨seen, ys, T, rfl, rfl, hS, hsn, rfl⟩
  obtain ⟨ρ, hρ⟩ : ∃ ρ, σ.set n (.mapr c bs (zeW sy)) = ρ := ⟨_, rfl⟩
  have hρl : ρ.length = σ.length := by rw [← hρ]; simp
  have r1 : ∀ τ, (ρ ++ τ)[n]? = some (.mapr c bs (zeW sy)) := fun τ => zy (by rw [← hρ]; exact List.getElem?_set_self hnl)
  have r2 : ∀ Y τ, (ρ ++ X :: Y :: τ)[σ.length + 1]? = some Y := fun Y τ => by rw [← hρl, zw]; rfl
  have r3 : ∀ Y τ, (ρ ++ X :: Y :: τ)[σ.length]? = some X := fun Y τ => by rw [← hρl, zu]; rfl
  have el : (σ ++ [X]).length = σ.length + 1 := by simp
  rw [hρ]
  simp only [el, zmN, r1, r2, zp]
  refine ⟨trivial, fun hall => ?_, fun j b1 e hb1 he hnb => ?_⟩
  · have hp := hS.perm hsn hbn hbl hall
    have hc : zqD ys a b = zqD sy a b := hp.countP_eq _
    rw [hc]
    refine zaP ?_
    refine zmq ?_ (by simp [zhZ, dmT, dm, dm1, zdg]) hl hK
    rw [List.set_append_left _ _ (by omega), List.take_append_of_le_length (by simp; omega), ← hρ, List.set_set, zdP hn, List.take_length]
  · obtain ⟨⟨key, x1, x2⟩, hx, rfl⟩ := says_get he
    have hlt : seen.length < sy.length := by
      have := hS.lt hsn hbl (List.mem_of_getElem? hb1) hnb
      rw [hS.1]; exact this
    have hs2 : (ρ ++ X :: zc.mit (some n) c seen :: T).set (σ.length + 1) (zc.mit (some n) c (seen ++ [b1])) = ρ ++ X :: zc.mit (some n) c (seen ++ [b1]) :: T := by
      rw [← hρl, zN]; rfl
    have hS2 := hS.snoc hb1 hx
    have hsn2 : (seen ++ [b1]).Nodup := by
      rw [List.nodup_append]
      exact ⟨hsn, by simp, fun x hx y hy => by simp at hy; subst hy; exact fun e => hnb (e ▸ hx)⟩
    have hyl : ys.length ≤ 1000000 := by have := hS.1; omega
    have hcn : zqD ys a b ≤ ys.length := List.countP_le_length
    have hst : zqD (ys ++ [(key, x1, x2)]) a b = zqD ys a b + if ((a == x1) && (b == x2)) = true then 1 else 0 := by
      simp only [zqD, List.countP_append, List.countP_singleton]
    refine zaP ?_
    rw [hs2]
    simp only [zjs, r1, r2]
    refine ⟨trivial, j, b1, _, by simp, hb1, he, ?_⟩
    have r3' : ∀ τ, (ρ ++ X :: zc.mit (some n) c (seen ++ [b1]) :: τ)[σ.length]? = some (.box [.d (.int .i64 a), .d (.int .i64 b)]) := fun τ => by rw [hX]; exact r3 _ _
    have hxy : zbM [AV.d (.int .i64 a), AV.d (.int .i64 b)] [AV.d (.int .i64 x1), AV.d (.int .i64 x2)] = some ((a == x1) && (b == x2)) := by simp [zbM]
    cases hq2 : ((a == x1) && (b == x2))
    · rw [hq2] at hxy hst
      refine zbi (zj r3' hxy) ?_
      refine zdE.next hlt ⟨seen ++ [b1], ys ++ [(key, x1, x2)], _, by rw [hst]; simp, by simp, hS2, hsn2, rfl⟩
    · rw [hq2] at hxy hst
      refine zbi (zj r3' (zj hxy (wk1 (zqD ys a b) (by omega)))) ?_
      exact zdE.next hlt ⟨seen ++ [b1], ys ++ [(key, x1, x2)], _, by rw [hst]; simp, by simp, hS2, hsn2, rfl⟩
end

end Go.Proofs.YtdgcepphjnoalaaGreat
