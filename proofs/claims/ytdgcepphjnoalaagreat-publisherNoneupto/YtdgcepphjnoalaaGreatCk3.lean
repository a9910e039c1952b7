/- Contracts: whether a proof may be, the document's. -/
import Derived.Test.YtdgcepphjnoalaaGreatCk1
import Derived.Test.YtdgcepphjnoalaaGreatOp2
import Derived.Test.YtdgcepphjnoalaaGreatCk4
import Derived.Test.YtdgcepphjnoalaaGreatRq1
import Derived.Test.YtdgcepphjnoalaaGreatRq2
import Derived.Test.YtdgcepphjnoalaaGreatSm5
import Derived.Test.YtdgcepphjnoalaaGreatMa3
import Derived.Test.YtdgcepphjnoalaaGreatCl1
import Derived.Test.YtdgcepphjnoalaaGreatAu3
import Derived.Test.YtdgcepphjnoalaaGreatPr1
import Derived.Test.YtdgcepphjnoalaaGreatWr5
import Derived.Test.YtdgcepphjnoalaaGreatMa4
import Derived.Test.YtdgcepphjnoalaaGreatAwFrz
set_option linter.all false
set_option maxRecDepth 100000
set_option linter.unusedSimpArgs false
set_option linter.unusedVariables false
namespace Go.Proofs.YtdgcepphjnoalaaGreat
open Go.AW









abbrev withS (m : zfc) (s : zS) : zfc := { m with key := s.key, sdig := s.dig }
theorem noMsg_A : msgL zfQ = [.d (.int .i64 0), .d (.int .i64 0), .d (.int .i64 0), .d (.int .i64 0), .d (.int .i64 0), .d (.int .i64 0), .d (.int .i64 0), .d (.int .i64 0), .d (.int .i64 0), .d (.slice []), .d (.int .i64 0), .d (.int .i64 0), .d (.slice []), .d (.slice []), .d (.slice []), .d (.slice []), .d (.str []), .d (.int .i64 0), .d (.str []), .d (.int .i64 0), .d (.slice []), .d (.slice []), .d (.int .i64 0), .d (.int .i64 0), .d (.slice []), .d (.int .i64 0), .d (.int .i64 0), .d (.slice []), .d (.int .i64 0), .d (.int .i64 0)] := rfl

def zkc (L : List (List UInt8)) (G : List zS) (m : zfc) : Bool := decide (zaW m = 0) && (decide (zaW (zlS m) = 0) && zkx L G ⟨m.key, m.sdig⟩ m.src (ziw m))
def zgS (L : List (List UInt8)) (G : List zS) (m : zfc) : MakeR :=
  if zaW (zlS m) ≠ 0 then ⟨zfQ, zaW (zlS m), L, G⟩
  else if sgnE L m.src (ziw m) ≠ 0 then ⟨zfQ, sgnE L m.src (ziw m), zgt L (ziw m), sgnG L G m.src (ziw m)⟩
  else ⟨withS m (sgnS L m.src (ziw m)), 0, zgt L (ziw m), sgnG L G m.src (ziw m)⟩
theorem replyB_len {m : zfc} (hc : zrm (zlS m)) : (zmL m).length ≤ 1073741824 := by
  have a1 := hc.view; have a2 := hc.client; have a3 := hc.time; have a4 := hc.rerr; have a5 := hc.roff
  simp only [zlS] at a1 a2 a3 a4 a5
  have := zoc (l := [m.view, m.client, m.time, m.rerr, m.roff]) (by simp; omega)
  simp only [zmL, List.length_cons, List.length_nil] at this ⊢
  omega
theorem c_auOwn5 {σ : List zc} {m : zfc} (hk : m.kind = 5) {K : AV → List zc → Prop} (hK : K (.agg [.d (.int .i64 m.key), .d (.int .i64 m.sdig)]) σ) : zl Tryz.prog zmg [znr m] σ K := by
  refine zfT e_auth_own fun hl => ?_
  simp only [zqu, iN, bT, bF, eN]
  refine zbi (kk5 hk) ?_
  refine zap hl ?_
  exact hK
theorem c_auWith5 {σ : List zc} {m : zfc} {s : zS} (hm : zdy m) (hk : m.kind = 5) {K : AV → List zc → Prop} (hK : K (znr (withS m s)) σ) : zl Tryz.prog zin [znr m, .agg [.d (.int .i64 s.key), .d (.int .i64 s.dig)]] σ K := by
  refine zjc e_auth_with fun hl => ?_
  simp only [zoV, iN, bT, bF, eN, zl3]
  refine zaP ?_
  refine c_mgClone (m := m) hm ?_
  refine zbi (kk5 hk) ?_
  refine zap hl ?_
  exact hK
theorem c_auValid5 {σ : List zc} {id m t id2 m2 t2 : Nat} {L : List (List UInt8)} {G : List zS} {M : zfc} (hT : zdT σ id m t L) (hG : zdp σ id2 m2 t2 G) (hL : znL L) (hg : G.length ≤ 1073741824) (hm : zdy M) (hk : M.kind = 5) {K : AV → List zc → Prop}
    (hK : K (.d (.bool (zkc L G M))) σ) : zl Tryz.prog zgZ [.box id 0, .box id2 0, znr M] σ K := by
  refine acE3 e_auth_Valid fun hl => ?_
  have fin : ∀ z, zkc L G M = z → K (.d (.bool z)) σ := fun z h => h ▸ hK
  clear hK
  have hT1 := fun τ => hT.app τ
  have hG1 := fun τ => hG.app τ
  simp only [znm, iN, bT, bF, eN]
  refine zaP ?_
  refine c_auMade (hT1 _) (hG1 _) hL hg ?_
  refine zaP ?_
  refine c_mCheck5 (m := M) hm hk ?_
  cases h1 : (zaW M != 0)
  rotate_left
  · refine zbi h1 ?_
    refine zap hl ?_
    exact fin _ (by simp at h1; simp [zkc, h1])
  have h1' : zaW M = 0 := by simpa using h1
  refine zbi h1 ?_
  refine znh (m := M) hm hk ?_
  cases h2 : (zaW (zlS M) == 0)
  · refine zbi h2 ?_
    refine zap hl ?_
    exact fin _ (by simp at h2; simp [zkc, h2])
  have h2' : zaW (zlS M) = 0 := by simpa using h2
  have hcb : ziw M = zmL M := by simp [ziw, h2']
  rw [hcb]
  refine zbi h2 ?_
  refine c_auOwn5 (m := M) hk ?_
  refine zaP ?_
  refine c_auSigned (s := zS.mk M.key M.sdig) (key := M.src) (b := zmL M) (hT1 _) (hG1 _) ?_
  refine zaP ?_
  refine zap hl ?_
  refine fin _ ?_
  simp [zkc, h1', h2', hcb]
theorem c_auSeal5 {i : TGi} {σ : List zc} {L : List (List UInt8)} {G : List zS} {m : zfc} (h : TG i σ L G) (hL : znL L) (hg : G.length ≤ 1073741824) (hm : zdy m) (hk : m.kind = 5) {K : AV → List zc → Prop}
    (hK : K (.tup [znr (zgS L G m).m, .d (.int .i64 (zgS L G m).e)]) (zfP i σ (zgS L G m).L (zgS L G m).G)) : zl Tryz.prog zkE [.box i.id 0, .box i.id2 0, znr m] σ K := by
  refine acE3 e_auth_Seal fun hl => ?_
  simp only [zoY, iN, bT, bF, eN, zl3]
  refine zaP ?_
  refine c_auMade (h.tab.app _) (h.led.app _) hL hg ?_
  refine zaP ?_
  refine znh (m := m) hm hk ?_
  by_cases h1 : zaW (zlS m) = 0
  rotate_left
  · have h1' : (zaW (zlS m) != 0) = true := by simpa using h1
    have e : zgS L G m = ⟨zfQ, zaW (zlS m), L, G⟩ := if_pos h1
    rw [e] at hK
    simp only [h.self, znr, noMsg_A] at hK
    refine zbi h1' ?_
    refine zap hl ?_
    exact hK
  have h1' : (zaW (zlS m) != 0) = false := by simpa using h1
  have hcb : ziw m = zmL m := by simp [ziw, h1]
  have hbl := replyB_len (check5 (m := zlS m) hk h1)
  rw [← hcb] at hbl
  obtain ⟨u, hu⟩ : ∃ u, zdH [m.view, m.client, m.time, m.rerr, m.roff] = u := ⟨_, rfl⟩
  obtain ⟨C, hC⟩ : ∃ C, ziw m = C := ⟨_, rfl⟩
  have e : zgS L G m = if sgnE L m.src C ≠ 0 then ⟨zfQ, sgnE L m.src C, zgt L C, sgnG L G m.src C⟩
      else ⟨withS m (sgnS L m.src C), 0, zgt L C, sgnG L G m.src C⟩ := by rw [← hC]; exact if_neg (by simpa using h1)
  rw [e] at hK
  have hCu : C = 5 :: u := by rw [← hC, hcb, zmL, hu]
  rw [hC] at hbl ⊢
  have hbc : bcs C = zcj 5 :: bcs u := by rw [hCu]; rfl
  rw [hbc]
  refine zbi h1' ?_
  rw [← hbc]
  refine c_auSign (h.app _) hL hbl hg ?_
  rw [h.put_app]
  have h2 := h.put (zgt L C) (sgnG L G m.src C)
  have hl2 := h.lows hl (zgt L C) (sgnG L G m.src C)
  have hs2 := zlj i σ (zgt L C) (sgnG L G m.src C)
  have hpp : (if sgnE L m.src C ≠ 0 then (⟨zfQ, sgnE L m.src C, zgt L C, sgnG L G m.src C⟩ : MakeR) else ⟨withS m (sgnS L m.src C), 0, zgt L C, sgnG L G m.src C⟩).L = zgt L C := by split <;> rfl
  have hpg : (if sgnE L m.src C ≠ 0 then (⟨zfQ, sgnE L m.src C, zgt L C, sgnG L G m.src C⟩ : MakeR) else ⟨withS m (sgnS L m.src C), 0, zgt L C, sgnG L G m.src C⟩).G = sgnG L G m.src C := by split <;> rfl
  rw [hpp, hpg] at hK
  clear hpp hpg e
  obtain ⟨S2, hS2⟩ : ∃ S, zfP i σ (zgt L C) (sgnG L G m.src C) = S := ⟨_, rfl⟩
  rw [hS2] at hK hs2 hl2 h2 ⊢
  have r2 : σ.length = S2.length := hs2.symm
  rw [r2] at hl2
  obtain ⟨sg, hsg⟩ : ∃ s, sgnS L m.src C = s := ⟨_, rfl⟩
  obtain ⟨N, hN⟩ : ∃ s, sgnE L m.src C = s := ⟨_, rfl⟩
  rw [hsg, hN] at hK
  rw [hsg, hN]
  simp only [signA]
  by_cases hn : N = 0
  · have hq2 : (N != 0) = false := by simpa using hn
    rw [if_neg (by simpa using hn)] at hK
    refine zbi (zj hq2 r2) ?_
    refine c_auWith5 (m := m) (s := sg) hm hk ?_
    refine zbi r2 ?_
    refine zhc rfl ?_ hl2 hK
    simp [zhZ, dmT, dm, dm1, zdg, zda, zhz]
  · have hq2 : (N != 0) = true := by simpa using hn
    rw [if_pos hn] at hK
    simp only [znr, noMsg_A] at hK
    refine zbi (zj hq2 r2) ?_
    refine zhc rfl ?_ hl2 hK
    simp [zhZ, dmT, dm, dm1, zdg, zda, zhz]

abbrev noPubC : List AV := [.d (.bool false), .d (.int .i64 0), .d (.int .i64 0), .d .nilp, .d .nilp, .d (.int .i64 0), .exact [], .d .nilmap, .d (.int .i64 0), .exact [], .d (.int .i64 0)]
def NoQ (σ : List zc) (x : AV) : Prop := x = .d .nilp ∨ ∃ e, x = .box e 0 ∧ σ[e]? = some (.box noPubC)
theorem NoQ.app {σ : List zc} {x : AV} (h : NoQ σ x) (τ : List zc) : NoQ (σ ++ τ) x := h.imp id fun ⟨e, h1, h2⟩ => ⟨e, h1, zy h2⟩
abbrev zSigned : zt := ⟨0, 0, ⟨0, [], [], 0, []⟩, 0, 0⟩
section

variable {σ : List zc} {x : AV} {K : AV → List zc → Prop}

theorem zhx (H : NoQ σ x) (hK : K (.d (.bool true)) σ) : zl Tryz.prog zx [x] σ K := by
  refine zfT zdV fun hl => ?_
  simp only [zcE, iN, bT, bF, eN]
  rcases H with rfl | ⟨e, rfl, he⟩
  · refine zaP ?_
    refine zap hl ?_
    exact hK
  · refine zbi he ?_
    refine zap hl ?_
    exact hK
theorem c_qAsk {o : TOp} (H : NoQ σ x) (hK : K (.tup [.d (.slice []), .d (.int .i64 2)]) σ) : zl Tryz.prog zbd [x, opA o] σ K := by
  have H0 := H
  rcases H with rfl | ⟨e, rfl, he⟩
  all_goals
    refine zjc zcP fun hl => ?_
    simp only [zcQ, iN, bT, bF, eN, zl0, zl2, opA]
    refine zaP ?_
    refine zhx (H0.app _) ?_
    refine zaP ?_
    refine zap hl ?_
    exact hK
theorem c_qWaits (H : NoQ σ x) (hK : K (.tup [zfO zSigned, .d (.bool false)]) σ) : zl Tryz.prog zcr [x] σ K := by
  have H0 := H
  rcases H with rfl | ⟨e, rfl, he⟩
  all_goals
    refine zfT zgJ fun hl => ?_
    simp only [zdN, iN, bT, bF, eN, zl0]
    refine zaP ?_
    refine zhx (H0.app _) ?_
    refine zaP ?_
    refine zap hl ?_
    exact hK
theorem c_qLast (H : NoQ σ x) (hK : K (.tup [zfO zSigned, .d (.bool false)]) σ) : zl Tryz.prog zaT [x] σ K := by
  have H0 := H
  rcases H with rfl | ⟨e, rfl, he⟩
  all_goals
    refine zfT zdY fun hl => ?_
    simp only [zcI, iN, bT, bF, eN, zl0]
    refine zaP ?_
    refine zhx (H0.app _) ?_
    refine zaP ?_
    refine zap hl ?_
    exact hK
theorem c_qTake {m : zfc} (H : NoQ σ x) (hK : K (.d (.bool false)) σ) : zl Tryz.prog zaR [x, znr m] σ K := by
  have H0 := H
  rcases H with rfl | ⟨e, rfl, he⟩
  all_goals
    refine zjc zcC fun hl => ?_
    simp only [zcG, iN, bT, bF, eN, zl0]
    refine zaP ?_
    refine zhx (H0.app _) ?_
    refine zaP ?_
    refine zap hl ?_
    exact hK
theorem c_qTick (H : NoQ σ x) (hK : K (.d (.slice [])) σ) : zl Tryz.prog zcB [x] σ K := by
  have H0 := H
  rcases H with rfl | ⟨e, rfl, he⟩
  all_goals
    refine zfT zgT fun hl => ?_
    simp only [zdZ, iN, bT, bF, eN]
    refine zaP ?_
    refine zhx H0 ?_
    refine zaP ?_
    refine zap hl ?_
    exact hK
theorem c_qClient (H : NoQ σ x) (hK : K (.d (.int .i64 0)) σ) : zl Tryz.prog zbX [x] σ K := by
  have H0 := H
  rcases H with rfl | ⟨e, rfl, he⟩
  all_goals
    refine zfT zgk fun hl => ?_
    simp only [zdA, iN, bT, bF, eN]
    refine zaP ?_
    refine zhx H0 ?_
    refine zaP ?_
    refine zap hl ?_
    exact hK
theorem c_qTime (H : NoQ σ x) (hK : K (.d (.int .i64 0)) σ) : zl Tryz.prog zaQ [x] σ K := by
  have H0 := H
  rcases H with rfl | ⟨e, rfl, he⟩
  all_goals
    refine zfT zdW fun hl => ?_
    simp only [zcF, iN, bT, bF, eN]
    refine zaP ?_
    refine zhx H0 ?_
    refine zaP ?_
    refine zap hl ?_
    exact hK
theorem c_qMany (H : NoQ σ x) (hK : K (.d (.int .i64 0)) σ) : zl Tryz.prog zaS [x] σ K := by
  have H0 := H
  rcases H with rfl | ⟨e, rfl, he⟩
  all_goals
    refine zfT zdX fun hl => ?_
    simp only [zcH, iN, bT, bF, eN]
    refine zaP ?_
    refine zhx H0 ?_
    refine zaP ?_
    refine zap hl ?_
    exact hK
theorem c_qVotes {a b : Int} (H : NoQ σ x) (hK : K (.d (.int .i64 0)) σ) : zl Tryz.prog zaM [x, .agg [.d (.int .i64 a), .d (.int .i64 b)]] σ K := by
  have H0 := H
  rcases H with rfl | ⟨e, rfl, he⟩
  all_goals
    refine zjc zdK fun hl => ?_
    simp only [zcz, iN, bT, bF, eN]
    refine zaP ?_
    refine zhx (H0.app _) ?_
    refine zaP ?_
    refine zap hl ?_
    exact hK
theorem c_qClone (H : NoQ σ x) (hK : K (.d .nilp) σ) : zl Tryz.prog zcs [x] σ K := by
  have H0 := H
  rcases H with rfl | ⟨e, rfl, he⟩
  all_goals
    refine zfT zgK fun hl => ?_
    simp only [zdO, iN, bT, bF, eN]
    refine zaP ?_
    refine zhx H0 ?_
    refine zaP ?_
    refine zap hl ?_
    exact hK
end

end Go.Proofs.YtdgcepphjnoalaaGreat

/- An end of a call that zpi all that it made: what the caller's objects name now lies there. -/
set_option linter.unusedSimpArgs false
set_option linter.unusedVariables false
namespace Go.AW
section
variable {P : Program} {σ : List zc}

def EndsA (K : AV → List zc → Prop) (out : Option (List AV)) (σ' : List zc) : Prop := match out with
  | some l => ∃ s, zlV [] σ' [] s ∧ K (dmT (zdg l)) s
  | none => False
theorem zoR {f : FuncId} {F : AF} {na : Nat} (hF : isFn P f F na) {as0 : List AV} (has : as0.length = na) {K : AV → List zc → Prop}
    (h : zfz σ.length σ → (∀ a ∈ as0, Low σ.length a) → awp P F.body (AtEnd fun fr' σ' => EndsA K (zno fr' σ' F.res) σ') (zgU 0 as0) σ) : zl P f as0 σ K :=
  zjx hF has _ (fun {L w L' σ' w' fr' ts} S st S' F' hz => by
    unfold EndsA at hz
    split at hz
    · rename_i l hl
      obtain ⟨s, hw, hK⟩ := hz
      obtain ⟨L2, st2, S2, _⟩ := zhB hw S' (us := []) ⟨rfl, by simp⟩
      exact ⟨L2, s, l, dmT (zdg l), hl, st.trans st2, S2, fun v hr => zoE (st2.rv hr), hK⟩
    · exact hz.elim) h
theorem endsA {K : AV → List zc → Prop} {l : List AV} {s : List zc} (h : K (dmT (zdg l)) s) : EndsA K (some l) s := ⟨_, .refl _ _, h⟩
end

end Go.AW
