/- Contracts: what a message's signature stands over; which messages are signed: the program's: view-changes and new views. -/
import Derived.Test.YtdgcepphjnoalaaGreatWr1
import Derived.Test.YtdgcepphjnoalaaGreatSpPool
import Derived.Test.YtdgcepphjnoalaaGreatRd1
import Derived.Test.YtdgcepphjnoalaaGreatOpC
import Derived.Test.YtdgcepphjnoalaaGreatRq2
import Derived.Test.YtdgcepphjnoalaaGreatSm5
set_option linter.all false
set_option maxRecDepth 100000
set_option linter.unusedSimpArgs false
set_option linter.unusedVariables false
namespace Go.Proofs.YtdgcepphjnoalaaGreat
open Go.AW

abbrev zlS (m : zfc) : zfc := { m with key := 0, sdig := 1 }
theorem uns8_small {m : zfc} (h : zdy m) : zdy (zlS m) := by
  obtain ⟨h1, h2, h3, h4, h5, h6, h7, h8, h9, h10⟩ := h
  exact ⟨h1, h2, h3, h4, h5, h6, h7, h8, h9, h10⟩


def resB (e o : Int) : List UInt8 := zdC (max 0 e).toNat ++ zdC (max 0 o).toNat
theorem gq35 {A P Q : Prop} (a : A) (h : Q) (e : A → P = Q := by intro a; simp -dsimp only [↓zgn, ↓zaG, ↓zca, ↓zgo, ↓zgh, ↓zgf, ↓zgi, ↓zgg, ↓zcf, ↓zcb, ↓zcg, ↓zcc, ↓zgj, ↓zbW, ↓zch, ↓zcd, ↓zci, ↓zce, ↓zge, ↓zgl, ↓zbV, ↓zck, ↓zgb, ↓zga, ↓zgd, iN, bT, bF, eN, ↓zds, ↓unC, ↓zX, ↓zJ, ↓zK, ↓zM, ↓zal, ↓zaV, ↓zdU, ↓zay, ↓zbD, ↓zR, ↓zi, ↓zg, ↓zbr, ↓zd, ↓zan, ↓zO, ↓zbf, ↓zbg, ↓zf, ↓zB, ↓zn, ↓zD, ↓zZ, ↓zeb, ↓zes, ↓zaq, ↓zaC, ↓zbe, ↓zbl, ↓zbG, ↓zp, ↓zao, ↓zL, ↓zr, ↓zaj, zen, zbP, zbL, unA, zdF, bnd, zeV, zaf, zac, zeF, dm, dm1, zQ, zaz, zfy, zfx, zI, Q0, Q1, Q2, Q3, Q4, Q5, zam, zw, zu, zN, zG, Q6, Q7, Q8, Q9, Q10, Q11, Q12, Q13, Q14, Nat.reduceAdd, Q15, Int.reduceToNat, Q16, Q17, Q18, Q19, Q20, reduceIte, Q21, Q22, zC, rep, zV, zfi, toD, zad, Q23, Q24, Q25, Q26, Q27, Q28, Nat.reduceLeDiff, Q29, Nat.reduceSub, Q30, Q31, Q32, sc, Q33, Q34, Q35, m1, a]; rfl) : P := (e a).mpr h
theorem c_PutResult {σ : List zc} {b : List UInt8} {e o : Int} (hb : b.length ≤ 268435456) (he : e < 9223372036854775808) (ho : o < 9223372036854775808) {K : AV → List zc → Prop} (hK : K (.d (.slice (bcs (b ++ resB e o)))) σ) :
    zl Tryz.prog zhs [.d (.slice (bcs b)), .agg [.d (.int .i64 e), .d (.int .i64 o)]] σ K := by
  refine zjc zps fun hl => ?_
  simp only [zkr, iN, bT, bF, eN]
  have g1 := zP (n := (max 0 e).toNat) (by omega)
  have m1 : IntKind.u64.wrap (if (0 : Int) > e then 0 else e) = ((max 0 e).toNat : Int) := by
    rw [show (if (0 : Int) > e then 0 else e) = max 0 e by split <;> omega]; exact u64_of (by omega) (by omega)
  have m2 : IntKind.u64.wrap (if (0 : Int) > o then 0 else o) = ((max 0 o).toNat : Int) := by
    rw [show (if (0 : Int) > o then 0 else o) = max 0 o by split <;> omega]; exact u64_of (by omega) (by omega)
  (refine gq35 m2 ?_; try with_reducible exact True.intro)
  refine zdS (by omega) (by omega) ?_
  (refine gq35 m2 ?_; try with_reducible exact True.intro)
  refine zdS (by omega) (by simp only [List.length_append]; omega) ?_
  (refine gq4 ?_; try with_reducible exact True.intro)
  refine zap hl ?_
  exact hK
end Go.Proofs.YtdgcepphjnoalaaGreat

/- The bytes of messages of any kind, and what their signatures stand over. No program in sight. -/
set_option linter.unusedSimpArgs false
set_option linter.unusedVariables false
namespace Go.AW

def zmL (m : zfc) : List UInt8 := 5 :: zdH [m.view, m.client, m.time, m.rerr, m.roff]
def uns5 (m : zfc) : List UInt8 := zdC m.kind.toNat ++ (zdH [m.src, m.view, m.client, m.time] ++ (zdC m.rerr.toNat ++ zdC m.roff.toNat))
structure zrm (m : zfc) : Prop where
  src : 0 ≤ m.src ∧ m.src ≤ 12
  view : 0 ≤ m.view ∧ m.view ≤ 9007199254740992
  client : 0 ≤ m.client ∧ m.client ≤ 7
  time : 0 ≤ m.time ∧ m.time ≤ 9007199254740992
  rerr : 0 ≤ m.rerr ∧ m.rerr ≤ 65536
  roff : 0 ≤ m.roff ∧ m.roff ≤ 9007199254740992
  sign : zaF m.key m.sdig = 0
theorem check5 {m : zfc} (hk : m.kind = 5) (h : zaW m = 0) : zrm m := by
  have h1 := (check_all h).1
  simp only [zof, zqL, hk] at h1
  exact ⟨inE_0 (h1 (brkE m.src) (by simp)), numE_0 (h1 _ (by simp)), inE_0 (h1 (inE m.client 0 7) (by simp)), numE_0 (h1 (zod m.time) (by simp)), inE_0 (h1 (inE m.rerr 0 65536) (by simp)), numE_0 (h1 (zod m.roff) (by simp)), h1 _ (by simp [show ownK 5 = true from rfl])⟩
end Go.AW

/- Contracts: the bytes of replies, as messages, and what their signatures stand over: the program's. -/
set_option maxRecDepth 100000
set_option linter.unusedSimpArgs false
set_option linter.unusedVariables false
namespace Go.Proofs.YtdgcepphjnoalaaGreat
open Go.AW

theorem res_eq {e o : Int} (he : 0 ≤ e) (ho : 0 ≤ o) : resB e o = zdC e.toNat ++ zdC o.toNat := by
  rw [resB, Int.max_eq_right he, Int.max_eq_right ho]
theorem c_wUns5 {σ : List zc} {id : Nat} {b : List UInt8} {m : zfc} (hσ : σ[id]? = some (wO b)) (hb : b.length ≤ 1000000) (hk : m.kind = 5) (hc : zrm m) {K : AV → List zc → Prop} (hK : K (.tup []) (σ.set id (wO (b ++ uns5 m)))) :
    zl Tryz.prog zbF [.box id 0, znr m] σ K := by
  refine zjc zhw fun hl => ?_
  have hid := zbR hσ
  obtain ⟨h1, h2, h3, h4, h5, h6, _⟩ := hc
  have n0 := zP (n := m.kind.toNat) (by omega)
  have n1 := zP (n := m.src.toNat) (by omega)
  have n2 := zP (n := m.view.toNat) (by omega)
  have n3 := zP (n := m.client.toNat) (by omega)
  have n4 := zP (n := m.time.toNat) (by omega)
  simp only [zep, iN, bT, bF, eN, zl5]
  have j := zqw.first hσ (msgO m)
  refine zaP ?_
  refine jw_num (l := [m.kind]) j hid (by omega) (by simp) (by simp; omega) fun S j => ?_
  have b0 := j.b
  refine zbi (zj b0 (kk5 hk)) ?_
  refine jw_num (l := [m.src, m.view, m.client, m.time]) j hid (by simp [zdH]; omega) (by simp) (by simp; omega) fun S j => ?_
  have b0 := j.b
  have a0 := j.a
  refine zbi (zj b0 a0) ?_
  refine c_PutResult (e := m.rerr) (o := m.roff) (b := b ++ (zdH [m.kind] ++ zdH [m.src, m.view, m.client, m.time])) (by simp [zdH]; omega) (by omega) (by omega) ?_
  refine zbi (zj b0 a0) ?_
  exact ((j.set hid _).as (by simp [uns5, hk, zdH, res_eq h5.1 h6.1])).done (wO_low _ _) hl hK
theorem uns5_len {m : zfc} (hk : m.kind = 5) (hc : zrm m) : (uns5 m).length ≤ 100 := by
  obtain ⟨h1, h2, h3, h4, h5, h6, _⟩ := hc
  have n0 := zP (n := m.kind.toNat) (by omega)
  have n1 := zP (n := m.src.toNat) (by omega)
  have n2 := zP (n := m.view.toNat) (by omega)
  have n3 := zP (n := m.client.toNat) (by omega)
  have n4 := zP (n := m.time.toNat) (by omega)
  have n5 := zP (n := m.rerr.toNat) (by omega)
  have n6 := zP (n := m.roff.toNat) (by omega)
  simp [uns5, zdH]; omega
theorem c_mBytes5 {σ : List zc} {m : zfc} (hm : zdy m) (hk : m.kind = 5) {K : AV → List zc → Prop} (hK : ∀ b : List UInt8, K (.tup [.d (.slice (bcs b)), .d (.int .i64 (zaW m))]) σ) :
    zl Tryz.prog zgF [znr m] σ K := by
  refine zfT zoB fun hl => ?_
  have fin : ∀ b z, zaW m = z → K (.tup [.d (.slice (bcs b)), .d (.int .i64 z)]) σ := fun b z h => h ▸ hK b
  clear hK
  simp only [zjE, iN, bT, bF, eN]
  refine zaP ?_
  refine c_mCheck5 (m := m) hm hk ?_
  cases h1 : (zaW m != 0)
  rotate_left
  · refine zbi h1 ?_
    refine zap hl ?_
    exact fin [] _ rfl
  have h1' : zaW m = 0 := by simpa using h1
  have hc := check5 hk h1'
  have n1 := uns5_len hk hc
  have n2 := signB_len hc.sign
  refine zbi h1 ?_
  refine zl.pre (.dataB (σ.length + 1) 0 [.exact []] (.exact []) [] (by simp) rfl rfl (.refl _ _)) ?_
  have hW : ((σ ++ [msgO m, .box [.exact []]]).set (σ.length + 1) (.box (([AV.exact []] : List AV).set 0 (.d (.slice []))))) = σ ++ [msgO m, wO []] := by rw [zN]; rfl
  rw [hW]
  refine c_wUns5 (b := []) (m := m) (by rw [zw]; rfl) (by simp) hk hc ?_
  rw [zN]
  refine zbi (kk5 hk) ?_
  refine zlF ?_
  refine zbi (show ownK m.kind = true by rw [hk]; rfl) ?_
  refine c_wSign (b := uns5 m) (by rw [zw]; rfl) (by omega) hc.sign ?_
  rw [zN]
  refine zaP ?_
  obtain ⟨u, hu⟩ : ∃ u, uns5 m ++ signB m.key m.sdig = u := ⟨_, rfl⟩
  have hlen : ¬ u.length > 262144 := by rw [← hu, List.length_append]; omega
  rw [hu]
  have hS : (σ ++ List.set [msgO m, wO (uns5 m)] 1 (wO u))[σ.length + 1]? = some (wO u) := by rw [zw]; rfl
  refine c_wShort (b := u) hS ?_
  rw [if_neg hlen, if_neg hlen]
  refine zaP ?_
  refine zap hl ?_
  exact fin _ _ h1'
theorem c_mUnsigned5 {σ : List zc} {m : zfc} (hm : zdy m) (hk : m.kind = 5) {K : AV → List zc → Prop}
    (hK : ∀ b : List UInt8, K (.tup [.d (.slice (bcs b)), .d (.int .i64 (zaW (zlS m)))]) σ) : zl Tryz.prog zeH [znr m] σ K := by
  refine zfT zlz fun hl => ?_
  have hs := uns8_small hm
  simp only [zhl, iN, bT, bF, eN, zl5]
  refine zbi (kk5 hk) ?_
  refine zlF ?_
  refine zbi (show ownK m.kind = true by rw [hk]; rfl) ?_
  refine c_mSome ?_
  refine zbi (kk5 hk) ?_
  refine c_mBytes5 (m := zlS m) hs hk fun b0 => ?_
  by_cases h1 : zaW (zlS m) = 0
  · have h1' : (zaW (zlS m) != 0) = false := by simp [h1]
    have hc := check5 (m := zlS m) hk h1
    refine zbi h1' ?_
    refine zl.pre (.dataB (σ.length + 1) 0 [.exact []] (.exact []) [] (by rw [zw]; rfl) rfl rfl (.refl _ _)) ?_
    rw [zN]
    refine c_wUns5 (b := []) (m := zlS m) (by rw [zw]; rfl) (by simp) hk hc ?_
    rw [zN]
    refine zaP ?_
    refine zap hl ?_
    have := hK (uns5 (zlS m))
    rw [h1] at this
    exact this
  · have h1' : (zaW (zlS m) != 0) = true := by simp [h1]
    refine zbi h1' ?_
    refine zap hl ?_
    exact hK []
def ziw (m : zfc) : List UInt8 := if zaW (zlS m) = 0 then zmL m else []
theorem znh {σ : List zc} {m : zfc} (hm : zdy m) (hk : m.kind = 5) {K : AV → List zc → Prop}
    (hK : K (.tup [.d (.slice (bcs (ziw m))), .d (.int .i64 (zaW (zlS m)))]) σ) : zl Tryz.prog zfw [znr m] σ K := by
  refine zfT zpw fun hl => ?_
  simp only [zkw, iN, bT, bF, eN]
  refine zaP ?_
  refine c_mUnsigned5 (m := m) hm hk fun b0 => ?_
  by_cases h1 : zaW (zlS m) = 0
  · have h1' : (zaW (zlS m) != 0) = false := by simp [h1]
    have hc := check5 (m := zlS m) hk h1
    have h2 : ziw m = zmL m := by simp [ziw, h1]
    refine zbi (zj h1' (kk5 hk)) ?_
    refine c_auPut (b := [5]) (l := [m.view, m.client, m.time, m.rerr, m.roff]) (by simp) (by simp) ?_ ?_
    · have a1 := hc.view; have a2 := hc.client; have a3 := hc.time; have a4 := hc.rerr; have a5 := hc.roff
      simp only [zlS] at a1 a2 a3 a4 a5
      simp; omega
    refine zaP ?_
    refine zap hl ?_
    rw [h2, h1] at hK
    exact hK
  · have h1' : (zaW (zlS m) != 0) = true := by simp [h1]
    have h2 : ziw m = [] := by simp [ziw, h1]
    refine zbi h1' ?_
    refine zap hl ?_
    rw [h2] at hK
    exact hK
end Go.Proofs.YtdgcepphjnoalaaGreat
