/- Contracts: whether what was sealed is valid; a batch's number. -/
import Derived.Test.YtpgahkdjkanblaaGreatRq3
import Derived.Test.YtpgahkdjkanblaaGreatId3
import Derived.Test.YtpgahkdjkanblaaGreatSpTab
set_option linter.all false
set_option maxRecDepth 100000
set_option linter.unusedSimpArgs false
set_option linter.unusedVariables false
namespace Go.Proofs.YtpgahkdjkanblaaGreat
open Go.AW

def zgf (L : List (List UInt8)) (G : List zP) (s : zu) : Bool := decide (zad s = 0) && match zen L (reqB s) with
  | some i => decide (s.key = keyF s.client ∧ s.dig = ((i + 1 : Nat) : Int)) && decide ((⟨s.key, s.dig⟩ : zP) ∈ G)
  | none => false
def zgD (L : List (List UInt8)) (G : List zP) (b : List zu) : Bool := decide (zy b = 0) && !(b.any fun s => !zgf L G s)
theorem c_rqValid {σ : List zf} {id m t id2 m2 t2 : Nat} {L : List (List UInt8)} {G : List zP} {s : zu} (hT : zed σ id m t L) (hG : zee σ id2 m2 t2 G)
    (hx : zlX s.op ≤ 20971520) {K : KT} (hK : K (.d (.bool (zgf L G s))) σ) : zm Tryz.prog zim [.box id 0, .box id2 0, zfG s] σ K := by
  refine zc zmo.is rfl fun hl _ => zmo.goes ?_
  have fin : ∀ z, zgf L G s = z → K (.d (.bool z)) σ := fun z h => h ▸ hK
  clear hK
  simp only [zmI, iN, bT, bF, eN, zfG]
  refine zao ?_
  refine zth (x := s) hx ?_
  by_cases hc : zad s = 0
  · have hb : (zad s != 0) = false := by simpa using hc
    rw [show zbD s = reqB s from if_pos hc]
    refine zH hb ?_
    refine ztd (hT.app _) ?_
    cases ho : zen L (reqB s) with
    | none =>
      refine gq67 ?_
      refine zq hl ?_
      exact fin _ (by simp [zgf, ho])
    | some i =>
      refine gq67 ?_
      refine c_rqKey ?_
      simp only [zvT]
      cases h1 : (s.key == keyF s.client)
      · refine gq69 h1 ?_
        refine zq hl ?_
        exact fin _ (by simp at h1; simp [zgf, ho, h1])
      · cases h2 : (s.dig == ((i + 1 : Nat) : Int))
        · refine gq69 (zi h1 h2) ?_
          refine zq hl ?_
          exact fin _ (by simp at h1 h2; simp [zgf, ho, h1]; intro _ h; omega)
        · refine gq69 (zi h1 h2) ?_
          refine c_gSigned (s := ⟨s.key, s.dig⟩) (hG.app _) ?_
          refine zao ?_
          refine zq hl ?_
          exact fin _ (by simp at h1 h2; simp [zgf, ho, hc, h1, h2])
  · have hb : (zad s != 0) = true := by simpa using hc
    refine zH hb ?_
    refine zq hl ?_
    exact fin _ (by simp [zgf, hc])
theorem zuc {σ : List zf} {id m t id2 m2 t2 : Nat} {L : List (List UInt8)} {G : List zP} {b : List zu} (hT : zed σ id m t L) (hG : zee σ id2 m2 t2 G)
    (hx : ∀ s ∈ b, zlX s.op ≤ 20971520) (hbl : b.length ≤ 1073741824) {K : KT} (hK : K (.d (.bool (zgD L G b))) σ) : zm Tryz.prog zeW [.box id 0, .box id2 0, .d (.slice (zbo b))] σ K := by
  refine zc zhK.is rfl fun hl _ => zhK.goes ?_
  have hok : okB b := ⟨hbl, fun s hs => sizes (hx s hs)⟩
  simp only [zhS, iN, bT, bF, eN]
  refine zao ?_
  refine zjy hok ?_
  by_cases hc : zy b = 0
  · have hq : (zy b == 0) = true := by simpa using hc
    rw [zgD, decide_eq_true hc, Bool.true_and] at hK
    refine zH hq ?_
    have e0 : (σ ++ [zf.box [AV.box id 0], zf.box [AV.box id2 0]])[σ.length]? = some (zf.box [AV.box id 0]) := by rw [zt]; rfl
    have e1 : (σ ++ [zf.box [AV.box id 0], zf.box [AV.box id2 0]])[σ.length + 1]? = some (zf.box [AV.box id2 0]) := by rw [zC]; rfl
    have hT1 := hT.app [zf.box [AV.box id 0], zf.box [AV.box id2 0]]
    have hG1 := hG.app [zf.box [AV.box id 0], zf.box [AV.box id2 0]]
    refine zmF (p := fun s => !zgf L G s) hbl (fun s hs K' hK' => ?_) ?_
    · obtain ⟨S, hS⟩ : ∃ S, σ ++ [zf.box [AV.box id 0], zf.box [AV.box id2 0]] = S := ⟨_, rfl⟩
      rw [hS] at e0 e1 hT1 hG1 hK' ⊢
      refine zc zgk.is rfl fun hl _ => zgk.goes ?_
      have e0' : ∀ τ, (S ++ τ)[σ.length]? = some (zf.box [AV.box id 0]) := fun τ => zx e0
      have e1' : ∀ τ, (S ++ τ)[σ.length + 1]? = some (zf.box [AV.box id2 0]) := fun τ => zx e1
      simp only [zgu, iN, bT, bF, eN, zfG]
      refine zH (zi e0' e1') ?_
      refine c_rqValid (s := s) (hT1.app _) (hG1.app _) (hx s hs) ?_
      refine zao ?_
      refine zq hl ?_
      exact hK'
    · refine zH hq ?_
      refine zq hl ?_
      exact hK
  · have hq : (zy b == 0) = false := by simpa using hc
    rw [zgD, decide_eq_false hc, Bool.false_and] at hK
    refine zH hq ?_
    refine zq hl ?_
    exact hK
end Go.Proofs.YtpgahkdjkanblaaGreat

/- Contracts: what the document says of sealed requests. -/
set_option maxRecDepth 100000
set_option linter.unusedSimpArgs false
set_option linter.unusedVariables false
namespace Go.Proofs.YtpgahkdjkanblaaGreat
open Go.AW

theorem c_rqrKey {σ : List zf} {c : Int} {K : KT} (hK : K (.d (.int .i64 (keyF c))) σ) : zm Tryz.prog zmh [.d (.int .i64 c)] σ K := c_rKey hK
theorem gq70 {A P Q : Prop} (a : A) (h : Q) (e : A → Hd Q → P := by intro a h; (repeat' first | simp -dsimp only [↓zey, ↓zay, ↓zbs, ↓zez, ↓zeu, ↓zes, ↓zev, ↓zet, ↓zbx, ↓zbt, ↓zby, ↓zbu, ↓zew, ↓zbr, ↓zbz, ↓zbv, ↓zbA, ↓zbw, ↓zer, ↓zex, ↓zbp, ↓zbB, ↓zep, ↓zeo, ↓zeq, iN, bT, bF, eN, ↓zcv, ↓unC, ↓zU, ↓zI, ↓zJ, ↓zM, ↓zX, ↓zal, ↓zcX, ↓zai, ↓zaJ, ↓zW, ↓zg, ↓zn, ↓zbP, ↓zb, ↓zaf, ↓zD, ↓zaI, ↓zaQ, ↓zd, ↓zF, ↓zj, ↓zG, ↓zam, ↓zdc, ↓zdj, ↓zak, ↓zau, ↓zaL, ↓zaY, ↓zbh, ↓zo, ↓zaj, ↓zK, ↓zr, ↓zV, zdk, zbn, zbk, unA, zdu, bnd, zdG, zae, zO, zdW, dm, dm1, zR, zaF, zea, zdZ, zw, Q0, Q1, Q2, Q3, Q4, Q5, zY, zC, zt, zN, zE, Q6, Q7, Q8, Q9, Q10, Q11, Q12, Q13, Q14, Nat.reduceAdd, Q15, Int.reduceToNat, Q16, Q17, Q18, Q19, Q20, reduceIte, Q21, Q22, zA, rep, zZ, zeB, toD, zap, Q23, Q24, Q25, Q26, Q27, Q28, Nat.reduceLeDiff, Q29, Nat.reduceSub, Q30, Q31, Q32, sc, Q33, Q34, Q35, Q36, Q37, Q26, Q38, Q39, zpZ, zpW, zpT, zqa, zgd, zpX, zpU, zpY, zpV, zgc, zge, zqb, zqc, Bool.not_true, Bool.not_false, List.length_map, Bool.and_false, Bool.and_self, Bool.false_and, Bool.true_and, Option.isSome_none, Option.isSome_some, Option.map_none, Option.map_some, beq_self_eq_true, bne_self_eq_false, a] | with_reducible refine zqd ?_ | fail); exact h.go) : P := e a ⟨h⟩
theorem c_rqrValid {σ : List zf} {id id2 : Nat} {L : List (List UInt8)} {G : List zP} {s : zu} (hT : σ[id]? = some (rtO L)) (hG : σ[id2]? = some (rlO G)) (hL : zwx L) (hGl : G.length ≤ 1073741824)
    (hx : zlX s.op ≤ 20971520) {K : KT} (hK : K (.d (.bool (zgf L G s))) σ) : zm Tryz.prog zoj [.box id 0, .box id2 0, zfG s] σ K := by
  refine zc zsO.is rfl fun hl _ => zsO.goes ?_
  have fin : ∀ z, zgf L G s = z → K (.d (.bool z)) σ := fun z h => h ▸ hK
  clear hK
  simp only [ztE, iN, bT, bF, eN, zfG]
  refine zao ?_
  refine zve (x := s) hx ?_
  by_cases hc : zad s = 0
  · have hb : (zad s != 0) = false := by simpa using hc
    rw [show zbD s = reqB s from if_pos hc]
    refine zH hb ?_
    refine c_rqrKey ?_
    cases h1 : (s.key != keyF s.client)
    · refine zH h1 ?_
      refine zwk (zx hT) hL.len ?_
      cases ho : zen L (reqB s) with
      | none =>
        refine gq67 ?_
        refine zq hl ?_
        exact fin _ (by simp [zgf, ho])
      | some i =>
        simp only [zvT]
        cases h2 : (((i + 1 : Nat) : Int) == s.dig)
        · refine gq70 h2 ?_
          refine zq hl ?_
          exact fin _ (by simp at h1 h2; simp [zgf, ho, h1]; intro _ h; omega)
        · refine gq70 h2 ?_
          refine zqN (s := ⟨s.key, s.dig⟩) (zx hG) hGl ?_
          refine zao ?_
          refine zq hl ?_
          refine fin _ ?_
          have h2' : s.dig = ((i + 1 : Nat) : Int) := by have := eq_of_beq h2; exact this.symm
          have h1' : s.key = keyF s.client := by simpa using h1
          simp [zgf, ho, hc, h1', h2']
    · refine zH h1 ?_
      refine zq hl ?_
      refine fin _ ?_
      have h1' : ¬ s.key = keyF s.client := by simpa using h1
      simp only [zgf]
      cases zen L (reqB s) <;> simp [h1']
  · have hb : (zad s != 0) = true := by simpa using hc
    refine zH hb ?_
    refine zq hl ?_
    exact fin _ (by simp [zgf, hc])
theorem ztf {σ : List zf} {id id2 : Nat} {L : List (List UInt8)} {G : List zP} {b : List zu} (hT : σ[id]? = some (rtO L)) (hG : σ[id2]? = some (rlO G)) (hL : zwx L) (hGl : G.length ≤ 1073741824)
    (hx : ∀ s ∈ b, zlX s.op ≤ 20971520) (hbl : b.length ≤ 1073741824) {K : KT} (hK : K (.d (.bool (zgD L G b))) σ) : zm Tryz.prog zhy [.box id 0, .box id2 0, .d (.slice (zbo b))] σ K := by
  refine zc zll.is rfl fun hl _ => zll.goes ?_
  have hok : okB b := ⟨hbl, fun s hs => sizes (hx s hs)⟩
  simp only [zlD, iN, bT, bF, eN]
  refine zao ?_
  refine zld hok ?_
  by_cases hc : zy b = 0
  · have hq : (zy b != 0) = false := by simpa using hc
    rw [zgD, decide_eq_true hc, Bool.true_and] at hK
    refine zH hq ?_
    refine zl b.length (fun k vs s => vs = [.d (.int .i64 k)] ∧ s = σ ∧ (b.take k).any (fun s => !zgf L G s) = false) ⟨rfl, rfl, by simp⟩ ?_
    rintro k vs S hk ⟨rfl, rfl, hno⟩
    by_cases hlt : k < b.length
    · have hd : decide ((k : Int) < (b.length : Int)) = true := by simp; omega
      have hy : b[k]? = some b[k] := by simp [hlt]
      have hgx := zQ (f := zaM) hy
      have hxx := hx _ (List.getElem_mem hlt)
      obtain ⟨x, hxe⟩ : ∃ x, b[k] = x := ⟨_, rfl⟩
      rw [hxe] at hy hgx hxx
      refine znj (zi hd hgx) ?_
      refine c_rqrValid (s := x) hT hG hL hGl hxx ?_
      cases hv : zgf L G x
      · rw [any_mem hy (by simp [hv])] at hK
        refine zao ?_
        refine zq hl ?_
        exact hK
      · refine zH (wk1 k (by omega)) ?_
        exact zaG.next hlt ⟨rfl, rfl, any_take hy hno (by simp [hv])⟩
    · have hd : decide ((k : Int) < (b.length : Int)) = false := by simp; omega
      rw [List.take_of_length_le (by omega)] at hno
      rw [hno] at hK
      refine zH hd ?_
      refine zq hl ?_
      exact hK
  · have hq : (zy b != 0) = true := by simpa using hc
    rw [zgD, decide_eq_false hc, Bool.false_and] at hK
    refine zH hq ?_
    refine zq hl ?_
    exact hK
end Go.Proofs.YtpgahkdjkanblaaGreat

/- A ledger's clone, whatever was signed. -/
set_option maxRecDepth 100000
set_option linter.unusedSimpArgs false
set_option linter.unusedVariables false
namespace Go.Proofs.YtpgahkdjkanblaaGreat
open Go.AW

theorem zrP {σ : List zf} {id m t : Nat} {g : List zP} (hG : zee σ id m t g) (hg : g.length ≤ 1073741824) {K : KT}
    (hK : ∀ g' : List zP, K (.box (σ.length + 1) 0) (σ ++ ledO σ.length g')) : zm Tryz.prog zcI [.box id 0] σ K := by
  refine zcl zhR.is rfl (fun s => List.range' σ.length 3) fun hl _ => zhR.goes ?_
  have hbx : ∀ τ, (σ ++ τ)[id]? = _ := fun τ => zx hG.box
  have hlen : (zrE g).length = g.length := List.length_map ..
  simp only [zhZ, iN, bT, bF, eN]
  refine zwa ?_
  refine zws hG ?_
  refine ziy hbx ?_
  refine zoy ?_
  refine ziy (zcc hbx hlen) ?_
  refine zl g.length (fun k vs s => vs = [.d (.int .i64 k)] ∧ ∃ g' τ, g'.length ≤ k ∧ s = σ ++ (ledO σ.length g' ++ τ)) ⟨rfl, [], [], by simp, by simp [zrE, ledM]⟩ ?_
  rintro k vs s hk ⟨rfl, g', τ, hg', rfl⟩
  by_cases hlt : k < g.length
  · have hd : decide ((k : Int) < (g.length : Int)) = true := by simp; omega
    have hx : g[k]? = some g[k] := by simp [hlt]
    obtain ⟨x, hxe⟩ : ∃ x, g[k] = x := ⟨_, rfl⟩
    rw [hxe] at hx
    have hgx : (zrE g)[k]? = some [D.int .i64 x.key, D.int .i64 x.dig] := by rw [zrE]; exact zQ hx
    refine ziy (zcc hd (zcc hgx hlen)) ?_
    have hL : ∀ τ', zee (σ ++ (ledO σ.length g' ++ τ')) (σ.length + 1) σ.length (σ.length + 2) g' := fun τ' => ledAt_new σ g' τ'
    refine c_gSign (hL (τ ++ [.box [.d (.int .i64 x.key), .d (.int .i64 x.dig)]])) (by omega) ?_
    have hP := putLed_new σ g' (znq g' x.key x.dig) (τ ++ [.box [.d (.int .i64 x.key), .d (.int .i64 x.dig)]])
    rw [hP]
    have hw : IntKind.i64.wrap ((k : Int) + 1) = ((k + 1 : Nat) : Int) := by rw [zat (by omega) (by omega)]; rfl
    refine ziy hw ?_
    refine zaG.next hlt ⟨rfl, znq g' x.key x.dig, τ ++ [.box [.d (.int .i64 x.key), .d (.int .i64 x.dig)]], ?_, by simp [ledO]⟩
    unfold znq signL
    split
    · split
      · omega
      · simp; omega
    · omega
  · have hd : decide ((k : Int) < (g.length : Int)) = false := by simp; omega
    refine ziy (zcc hlen hd) ?_
    exact zjl (σ' := σ) (os := ledO σ.length g') (τ := τ) rfl rfl hl (low_ledO _ _) (.box _ _ (by simp)) (hK g')
end Go.Proofs.YtpgahkdjkanblaaGreat

/- Contracts: votes, on both sides. -/
set_option maxRecDepth 100000
set_option linter.unusedSimpArgs false
set_option linter.unusedVariables false
namespace Go.Proofs.YtpgahkdjkanblaaGreat
open Go.AW

theorem c_auMay {σ : List zf} {a b c d : Int} {K : KT} (hK : K (.d (.bool (mayV a b c d))) σ) :
    zm Tryz.prog zqw [.d (.int .i64 a), .d (.int .i64 b), .d (.int .i64 c), .d (.int .i64 d)] σ K := by
  refine zc zuZ.is rfl fun hl _ => zuZ.goes ?_
  rw [mayV_all] at hK
  simp only [zvG, iN, bT, bF, eN]
  refine zao ?_
  have hg : ∀ (k : Nat) x, [a, b, c, d][k]? = some x → [[D.int .i64 a], [D.int .i64 b], [D.int .i64 c], [D.int .i64 d]][k]? = some [D.int .i64 x] := fun k x h => by
    have := zQ (f := fun t => [D.int .i64 t]) h
    simpa using this
  have hl4 : [a, b, c, d].length = 4 := rfl
  obtain ⟨l, hlq⟩ : ∃ l, [a, b, c, d] = l := ⟨_, rfl⟩
  rw [hlq] at hK hl4 hg
  refine zl 4 (fun k vs s => vs = [.d (.int .i64 k)] ∧ (∃ T, s = σ ++ T) ∧ (l.take k).all zja = true) ⟨rfl, ⟨[], (List.append_nil σ).symm⟩, by simp⟩ ?_
  rintro k vs s hk ⟨rfl, ⟨T, rfl⟩, hok⟩
  by_cases hlt : k < 4
  · have hd : decide ((k : Int) < ((4 : Nat) : Int)) = true := by simp; omega
    have hx : l[k]? = some (l[k]'(by omega)) := List.getElem?_eq_getElem _
    have hgx := hg k _ hx
    obtain ⟨x, hxe⟩ : ∃ x, (l[k]'(by omega)) = x := ⟨_, rfl⟩
    rw [hxe] at hx hgx
    have bad : zja x = false → l.all zja = false := fun h => by
      rw [Bool.eq_false_iff]
      intro hall
      have := List.all_eq_true.1 hall x (List.mem_of_getElem? hx)
      rw [h] at this; cases this
    have hx2 : zja x = (decide (0 ≤ x) && decide (x ≤ 9007199254740992)) := by simp [zja]
    cases h1 : decide (x < 0)
    · cases h2 : decide (x > 9007199254740992)
      · refine zH (zi hd (zi hgx (zi h1 (zi h2 (wki k (by omega)))))) ?_
        refine zaG.next hlt ⟨rfl, ⟨_, rfl⟩, ?_⟩
        rw [List.take_add_one, hx]
        simp only [List.all_append, hok, Option.toList_some, List.all_cons, List.all_nil, Bool.true_and, Bool.and_true]
        simp at h1 h2
        simp [zja]; omega
      · rw [bad (by simp at h2; simp [zja]; omega)] at hK
        refine zH (zi hd (zi hgx (zi h1 h2))) ?_
        refine zq hl ?_
        exact hK
    · rw [bad (by simp at h1; simp [zja]; omega)] at hK
      refine zH (zi hd (zi hgx h1)) ?_
      refine zq hl ?_
      exact hK
  · have hd : decide ((k : Int) < ((4 : Nat) : Int)) = false := by simp; omega
    rw [List.take_of_length_le (by omega)] at hok
    rw [hok] at hK
    refine zH hd ?_
    refine zq hl ?_
    exact hK
theorem c_auPut {σ : List zf} {b : List UInt8} {l : List Int} (hb : b.length ≤ 1000000) (hl0 : l.length ≤ 1000) (hi : ∀ x ∈ l, 0 ≤ x ∧ x ≤ 9007199254740992) {K : KT} (hK : K (.d (.slice (bcs (b ++ zbq l)))) σ) :
    zm Tryz.prog zni [.d (.slice (bcs b)), .d (.slice (zop l))] σ K := by
  refine zc zuX.is rfl fun hl _ => zuX.goes ?_
  simp only [zvE, iN, bT, bF, eN]
  refine zao ?_
  refine zl l.length (fun k vs s => (∃ x, vs = [x, .d (.int .i64 k)] ∧ (x = .d (.slice (bcs (b ++ zbq (l.take k)))) ∨ ∃ t, x = .own t (bcs (b ++ zbq (l.take k))))) ∧ ∃ T, s = σ ++ T) ⟨⟨_, rfl, .inl (by simp [zbq])⟩, [], by simp⟩ ?_
  rintro k vs s hk ⟨⟨y, rfl, hy⟩, T, rfl⟩
  have hdy : dm y = .d (.slice (bcs (b ++ zbq (l.take k)))) := by
    rcases hy with rfl | ⟨t, rfl⟩ <;> rfl
  by_cases hlt : k < l.length
  · have hd : decide ((k : Int) < (l.length : Int)) = true := by simp; omega
    have hx : l[k]? = some l[k] := by simp [hlt]
    have hxi := hi _ (List.getElem_mem hlt)
    have hgx := zQ (f := fun t => [D.int .i64 t]) hx
    obtain ⟨x, hxe⟩ : ∃ x, l[k] = x := ⟨_, rfl⟩
    rw [hxe] at hx hgx hxi
    have hm1 : (if x > 0 then x else 0) = x := by split <;> omega
    have hm2 : (if 0 < x then x else 0) = x := by split <;> omega
    have hw : IntKind.u64.wrap x = ((x.toNat : Nat) : Int) := by
      rw [show x = ((x.toNat : Nat) : Int) by omega, zcC (by omega)]; rfl
    have hln := zsj (l := l.take k) (fun y hy => by have := hi y (List.mem_of_mem_take hy); omega)
    have hlk : (l.take k).length = k := by rw [List.length_take]; omega
    have hw2 : IntKind.i64.wrap ((k : Int) + 1) = ((k + 1 : Nat) : Int) := by rw [zat (by omega) (by omega)]; rfl
    have hbl : (b ++ zbq (l.take k)).length ≤ 1073741824 := by rw [List.length_append]; omega
    rcases hy with rfl | ⟨t, rfl⟩
    · refine zH (zi hd (zi hgx (zi hm1 (zi hm2 hw)))) ?_
      refine zdU (by omega) hbl ?_
      refine zH hw2 ?_
      exact zaG.next hlt ⟨⟨_, rfl, .inr ⟨_, by rw [zuu hx]⟩⟩, _, rfl⟩
    · refine zH (zi hd (zi hgx (zi hm1 (zi hm2 hw)))) ?_
      refine zdU (by omega) hbl ?_
      refine zH hw2 ?_
      exact zaG.next hlt ⟨⟨_, rfl, .inr ⟨_, by rw [zuu hx]⟩⟩, _, rfl⟩
  · have hd : decide ((k : Int) < (l.length : Int)) = false := by simp; omega
    rw [List.take_of_length_le (by omega)] at hy
    rcases hy with rfl | ⟨t, rfl⟩
    · refine zH hd ?_
      refine zq hl ?_
      exact hK
    · refine zH hd ?_
      refine zq hl ?_
      exact hK
end Go.Proofs.YtpgahkdjkanblaaGreat
