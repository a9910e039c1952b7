/- Contracts: which view-changes and new views are signed, the document's. -/
import Derived.Test.YtpgahkdjkanblaaGreatPr4
import Derived.Test.YtpgahkdjkanblaaGreatAu2
import Derived.Test.YtpgahkdjkanblaaGreatSpTab
import Derived.Test.YtpgahkdjkanblaaGreatSpOp
set_option linter.all false
set_option maxRecDepth 100000
set_option linter.unusedSimpArgs false
set_option linter.unusedVariables false
namespace Go.Proofs.YtpgahkdjkanblaaGreat
open Go.AW

theorem c_kCheck7 {σ : List zf} {m : zgs} (hm : zdX m) (hk : m.kind = 7) {K : KT} (hK : K (.d (.int .i64 (zbU m))) σ) : zm Tryz.prog zkM [zqx m] σ K := by
  refine zc zsM.is rfl fun hl _ => zsM.goes ?_
  have fin : ∀ z, zbU m = z → K (.d (.int .i64 z)) σ := fun z h => h ▸ hK
  clear hK
  simp only [ztC, iN, bT, bF, eN]
  refine zao ?_
  refine c_kParts7 (m := m) hm hk ?_
  cases h1 : (zbj (zkb m) != 0)
  rotate_left
  · refine zH h1 ?_
    refine zq hl ?_
    exact fin _ (by simp at h1; simp [zbU, h1])
  refine zH h1 ?_
  refine c_kOnly7 (m := m) hk ?_
  refine zao ?_
  refine c_kSame (a := m) (b := zrI m) hm (zvm hm) ?_
  cases h2 : decide (m = zrI m)
  · refine zao ?_
    refine zq hl ?_
    exact fin _ (by simp at h1 h2; simp [zbU, h1, h2])
  · refine zao ?_
    refine zq hl ?_
    exact fin _ (by simp at h1 h2; simp [zbU, h1, ← h2])
theorem c_kBytes7 {σ : List zf} {m : zgs} (hm : zdX m) (hk : m.kind = 7) {K : KT} (hK : K (.tup [.d (.slice (bcs (zqA m))), .d (.int .i64 (zdn m))]) σ) :
    zm Tryz.prog zoi [zqx m] σ K := by
  refine zc zsN.is rfl fun hl _ => zsN.goes ?_
  have fin : ∀ x z, zqA m = x → zdn m = z → K (.tup [.d (.slice (bcs x)), .d (.int .i64 z)]) σ := fun x z h h' => h ▸ h' ▸ hK
  clear hK
  simp only [ztD, iN, bT, bF, eN]
  refine zao ?_
  refine c_kCheck7 (m := m) hm hk ?_
  cases h1 : (zbU m != 0)
  rotate_left
  · have h1' : zbU m ≠ 0 := by simpa using h1
    have e1 : zdn m = zbU m := by simp [zdn, h1']
    have e2 : zqA m = [] := by simp [zqA, e1, h1']
    refine zH h1 ?_
    refine zq hl ?_
    exact fin _ _ e2 e1
  have h1' : zbU m = 0 := by simpa using h1
  obtain ⟨c, hc, he⟩ := check7 hk h1'
  obtain ⟨he1, he2⟩ := zpq he
  have hgx : (zaP m.changes)[0]? = some (zbm c) := by rw [hc]; rfl
  have hgl : (zaP m.changes).length = 1 := by rw [hc]; rfl
  have n0 := zp (n := m.kind.toNat) (by omega)
  have n1 := bodyB_len he1
  have hu : zqU m = zcf m.kind.toNat ++ ztl c := by simp [zqU, hk, hc]
  have hf : zua m = zqU m ++ zfD c.key c.dig := by simp [zua, ownS, hk, hc]
  have hsb : zcy c.key c.dig = zfD c.key c.dig := by simp [zcy, he2]
  refine zH h1 ?_
  refine c_kBody7 (m := m) (c := c) hk hc he1 ?_
  refine zjk (zB (show (m.kind == 1) = false by rw [hk]; rfl) (zB (show (m.kind == 2) = false by rw [hk]; rfl) (zB (show (m.kind == 3) = false by rw [hk]; rfl) (zB (show (m.kind == 4) = false by rw [hk]; rfl) (zB (show (m.kind == 5) = false by rw [hk]; rfl) (zB (show (m.kind == 6) = false by rw [hk]; rfl) (zB (show (m.kind == 7) = true by rw [hk]; rfl) (zB (show (m.kind == 8) = false by rw [hk]; rfl) (zB (show (m.kind == 9) = false by rw [hk]; rfl) (zB (show (m.kind == 10) = false by rw [hk]; rfl) (zB (show (m.kind == 11) = false by rw [hk]; rfl) (zB (show (m.kind == 12) = false by rw [hk]; rfl) (zB hgx hgl))))))))))))) ?_
  refine znm (b := zqU m) (by rw [hu]; simp only [List.length_append]; omega) ?_
  rw [hsb, ← hf]
  refine zao ?_
  refine c_kShort (b := zua m) ?_
  by_cases hlen : (zua m).length > 262144
  · have e1 : zdn m = 3 := by simp only [zdn, h1', ne_eq, not_true, if_false, hlen, if_true]
    have e2 : zqA m = [] := by simp [zqA, e1]
    rw [if_pos hlen, if_pos hlen]
    refine zao ?_
    refine zq hl ?_
    exact fin _ _ e2 e1
  · have e1 : zdn m = 0 := by simp only [zdn, h1', ne_eq, not_true, if_false, hlen]
    have e2 : zqA m = zua m := by simp [zqA, e1]
    rw [if_neg hlen, if_neg hlen]
    refine zao ?_
    refine zq hl ?_
    exact fin _ _ e2 e1
theorem c_kUnsigned7 {σ : List zf} {m : zgs} {c : zaa} (hm : zdX m) (hk : m.kind = 7) (hc : m.changes = [c]) {K : KT}
    (hK : K (.tup [.d (.slice (bcs (if zdn (zfE m) = 0 then zqU (zfE m) else []))), .d (.int .i64 (zdn (zfE m)))]) σ) : zm Tryz.prog zjM [zqx m] σ K := by
  refine zc znB.is rfl fun hl _ => znB.goes ?_
  have hgx : (zaP m.changes)[0]? = some (zbm c) := by rw [hc]; rfl
  have hgl : (zaP m.changes).length = 1 := by rw [hc]; rfl
  have hs := zuk hm hc
  rw [some7 hk hc] at hK
  simp only [znP, iN, bT, bF, eN]
  refine zjk (zB (show (m.kind == 1) = false by rw [hk]; rfl) (zB (show (m.kind == 2) = false by rw [hk]; rfl) (zB (show (m.kind == 3) = false by rw [hk]; rfl) (zB (show (m.kind == 4) = false by rw [hk]; rfl) (zB (show (m.kind == 5) = false by rw [hk]; rfl) (zB (show (m.kind == 6) = false by rw [hk]; rfl) (zB (show (m.kind == 7) = true by rw [hk]; rfl) (zB (show (m.kind == 8) = false by rw [hk]; rfl) (zB (show (m.kind == 9) = false by rw [hk]; rfl) (zB (show (m.kind == 10) = false by rw [hk]; rfl) (zB (show (m.kind == 11) = false by rw [hk]; rfl) (zB (show (m.kind == 12) = false by rw [hk]; rfl) (zB hgx hgl))))))))))))) ?_
  refine c_kBytes7 (m := uns7 m c) hs hk ?_
  by_cases h1 : zdn (uns7 m c) = 0
  · have h1' : (zdn (uns7 m c) != 0) = false := by simp [h1]
    have h2 : zbU (uns7 m c) = 0 := by
      unfold zdn at h1
      split at h1
      · rename_i hh; exact absurd h1 hh
      · rename_i hh; simpa using hh
    obtain ⟨c', hc', he⟩ := check7 (m := uns7 m c) hk h2
    obtain ⟨he1, he2⟩ := zpq he
    refine zH h1' ?_
    refine c_kBody7 (m := uns7 m c) (c := c') hk hc' he1 ?_
    refine zao ?_
    refine zq hl ?_
    rw [if_pos h1, h1] at hK
    exact hK
  · have h1' : (zdn (uns7 m c) != 0) = true := by simp [h1]
    refine zH h1' ?_
    refine zq hl ?_
    rw [if_neg h1] at hK
    exact hK
theorem c_raContent7 {σ : List zf} {m : zgs} {c : zaa} (hm : zdX m) (hk : m.kind = 7) (hc : m.changes = [c]) {K : KT}
    (hK : K (.tup [.d (.slice (bcs (zot m))), .d (.int .i64 (zdn (zfE m)))]) σ) : zm Tryz.prog zkK [zqx m] σ K := by
  refine zc zpf.is rfl fun hl _ => zpf.goes ?_
  simp only [zpG, iN, bT, bF, eN]
  refine zao ?_
  refine c_kUnsigned7 (m := m) hm hk hc ?_
  by_cases h1 : zdn (zfE m) = 0
  · have h1' : (zdn (zfE m) != 0) = false := by simp [h1]
    have h2 : zot m = 6 :: zqU (zfE m) := by simp [zot, h1]
    have hlen := uns_len h1
    rw [if_pos h1]
    refine zH (zB h1' (zB (show (m.kind == 1) = false by rw [hk]; rfl) (zB (show (m.kind == 2) = false by rw [hk]; rfl) (zB (show (m.kind == 3) = false by rw [hk]; rfl) (zB (show (m.kind == 4) = false by rw [hk]; rfl) (zB (show (m.kind == 5) = false by rw [hk]; rfl) (zB (show (m.kind == 6) = false by rw [hk]; rfl) (zB (show (m.kind == 7) = true by rw [hk]; rfl) (zB (show (m.kind == 8) = false by rw [hk]; rfl) (zB (show (m.kind == 9) = false by rw [hk]; rfl) (zB (show (m.kind == 10) = false by rw [hk]; rfl) (zB (show (m.kind == 11) = false by rw [hk]; rfl) (show (m.kind == 12) = false by rw [hk]; rfl))))))))))))) ?_
    refine ⟨bcs1 _, by simp, by omega, ?_⟩
    refine zq hl ?_
    rw [h2, h1] at hK
    exact hK
  · have h1' : (zdn (zfE m) != 0) = true := by simp [h1]
    have h2 : zot m = [] := by simp [zot, h1]
    rw [if_neg h1]
    refine zH h1' ?_
    refine zq hl ?_
    rw [h2] at hK
    exact hK
theorem c_raOf7 {σ : List zf} {m : zgs} {c : zaa} (hk : m.kind = 7) (hc : m.changes = [c]) {K : KT} (hK : K (.agg [.d (.int .i64 (ownS m).key), .d (.int .i64 (ownS m).dig)]) σ) : zm Tryz.prog zvV [zqx m] σ K := by
  refine zc e_r11_of.is rfl fun hl _ => e_r11_of.goes ?_
  have hgx : (zaP m.changes)[0]? = some (zbm c) := by rw [hc]; rfl
  have hgl : (zaP m.changes).length = 1 := by rw [hc]; rfl
  simp only [S_r11_of, iN, bT, bF, eN]
  refine zjk (zB (show (m.kind == 1) = false by rw [hk]; rfl) (zB (show (m.kind == 2) = false by rw [hk]; rfl) (zB (show (m.kind == 3) = false by rw [hk]; rfl) (zB (show (m.kind == 4) = false by rw [hk]; rfl) (zB (show (m.kind == 5) = false by rw [hk]; rfl) (zB (show (m.kind == 6) = false by rw [hk]; rfl) (zB (show (m.kind == 7) = true by rw [hk]; rfl) (zB (show (m.kind == 8) = false by rw [hk]; rfl) (zB (show (m.kind == 9) = false by rw [hk]; rfl) (zB (show (m.kind == 10) = false by rw [hk]; rfl) (zB (show (m.kind == 11) = false by rw [hk]; rfl) (zB (show (m.kind == 12) = false by rw [hk]; rfl) (zB hgx (zB hgl (show decide (((1 : Nat) : Int) > 0) = true from rfl))))))))))))))) ?_
  refine zq hl ?_
  simp only [ownS, hk, if_true, hc] at hK
  exact hK
theorem c_raChange {σ : List zf} {c : zaa} {K : KT} (hK : K (zqx (vcM c)) σ) : zm Tryz.prog zmf [.agg (zbV c)] σ K := by
  refine zc zrg.is rfl fun hl _ => zrg.goes ?_
  simp only [zrr, iN, bT, bF, eN]
  refine zao ?_
  refine zq hl ?_
  exact hK
theorem c_raValid7 {σ : List zf} {id id2 : Nat} {L : List (List UInt8)} {G : List zP} {M : zgs} {c : zaa} (hT : σ[id]? = some (rtO L)) (hG : σ[id2]? = some (rlO G)) (hL : L.length ≤ 1048576) (hg : G.length ≤ 1073741824) (hm : zdX M) (hk : M.kind = 7) (hc : M.changes = [c]) {K : KT}
    (hK : K (.d (.bool (zgC L G M))) σ) : zm Tryz.prog zof [.box id 0, .box id2 0, zqx M] σ K := by
  refine zc zsH.is rfl fun hl _ => zsH.goes ?_
  have fin : ∀ z, zgC L G M = z → K (.d (.bool z)) σ := fun z h => h ▸ hK
  clear hK
  have hT1 := fun τ => zx (τ := τ) hT
  have hG1 := fun τ => zx (τ := τ) hG
  simp only [ztx, iN, bT, bF, eN]
  refine zao ?_
  refine c_raContent7 (m := M) hm hk hc ?_
  cases h2 : (zdn (zfE M) != 0)
  rotate_left
  · refine zH h2 ?_
    refine zq hl ?_
    exact fin _ (by simp at h2; simp [zgC, h2])
  have h2' : zdn (zfE M) = 0 := by simpa using h2
  have hcb : zot M = 6 :: zqU (zfE M) := by simp [zot, h2']
  rw [hcb]
  refine zH h2 ?_
  refine c_kCheck7 (m := M) hm hk ?_
  cases h1 : (zbU M != 0)
  rotate_left
  · refine zH h1 ?_
    refine zq hl ?_
    exact fin _ (by simp at h1; simp [zgC, h1])
  have h1' : zbU M = 0 := by simpa using h1
  refine zH h1 ?_
  refine c_raOf7 (m := M) hk hc ?_
  refine zao ?_
  refine zvf (s := ownS M) (key := M.src) (b := 6 :: zqU (zfE M)) (hT1 _) (hG1 _) hL hg ?_
  refine zao ?_
  refine zq hl ?_
  refine fin _ ?_
  simp [zgC, h1', h2', hcb]
end Go.Proofs.YtpgahkdjkanblaaGreat

/- Contracts: which view-changes and new views are signed, the program's. -/
set_option maxRecDepth 100000
set_option linter.unusedSimpArgs false
set_option linter.unusedVariables false
namespace Go.Proofs.YtpgahkdjkanblaaGreat
open Go.AW

theorem c_auValid7 {σ : List zf} {id m t id2 m2 t2 : Nat} {L : List (List UInt8)} {G : List zP} {M : zgs} {c : zaa} (hT : zed σ id m t L) (hG : zee σ id2 m2 t2 G) (hL : zwx L) (hg : G.length ≤ 1073741824) (hm : zdX M) (hk : M.kind = 7) (hc : M.changes = [c]) {K : KT}
    (hK : K (.d (.bool (zgC L G M))) σ) : zm Tryz.prog zml [.box id 0, .box id2 0, zqx M] σ K := by
  refine zc zro.is rfl fun hl _ => zro.goes ?_
  have fin : ∀ z, zgC L G M = z → K (.d (.bool z)) σ := fun z h => h ▸ hK
  clear hK
  have hT1 := fun τ => hT.app τ
  have hG1 := fun τ => hG.app τ
  simp only [zrz, iN, bT, bF, eN]
  refine zao ?_
  refine c_auMade (hT1 _) (hG1 _) hL hg ?_
  refine zao ?_
  refine c_mCheck7 (m := M) hm hk ?_
  cases h1 : (zbU M != 0)
  rotate_left
  · refine zH h1 ?_
    refine zq hl ?_
    exact fin _ (by simp at h1; simp [zgC, h1])
  have h1' : zbU M = 0 := by simpa using h1
  refine zH h1 ?_
  refine c_auContent7 (m := M) hm hk hc ?_
  cases h2 : (zdn (zfE M) == 0)
  · refine zH h2 ?_
    refine zq hl ?_
    exact fin _ (by simp at h2; simp [zgC, h2])
  have h2' : zdn (zfE M) = 0 := by simpa using h2
  have hcb : zot M = 6 :: zqU (zfE M) := by simp [zot, h2']
  rw [hcb]
  refine zH h2 ?_
  refine c_auOwn7 (m := M) hk hc ?_
  refine zao ?_
  refine zvh (s := ownS M) (key := M.src) (b := 6 :: zqU (zfE M)) (hT1 _) (hG1 _) ?_
  refine zao ?_
  refine zq hl ?_
  refine fin _ ?_
  simp [zgC, h1', h2', hcb]
end Go.Proofs.YtpgahkdjkanblaaGreat

/- Checkpoints' certificates: which are valid. No program in sight. -/
set_option linter.unusedSimpArgs false
set_option linter.unusedVariables false
namespace Go.AW

def zjb (f seq d key : Int) : Bool := decide (seq ≥ 1) && (decide (seq ≤ 9007199254740992) && ((seq.tmod 4 == 0) && (decide (d ≥ 1) && (decide (d ≤ 9007199254740992) && (decide (key ≥ 0) && decide (key < zcJ 3 f))))))
def zqf (c : zek) : Bool := (c.seq == 0) && ((c.dig == 0) && ((c.signs.length : Int) == 0))
def zvZ (f seq d : Int) : Option zP → List zP → Bool
  | _, [] => true
  | p, s :: r => zjb f seq d s.key && ((match p with | some q => !(decide (s.key ≤ q.key)) | none => true) && zvZ f seq d (some s) r)
def zdQ (f : Int) (c : zek) : Bool := zqf c || (decide ((c.signs.length : Int) ≥ zcJ 2 f) && zvZ f c.seq c.dig none c.signs)
def zou (L : List (List UInt8)) (G : List zP) (f : Int) (c : zek) : Bool := decide (zbK f = 0) && (zdQ f c && c.signs.all fun s => zfw L G s s.key 6 0 c.seq c.dig)
theorem zuz {f seq d : Int} {p : Option zP} {l : List zP} {k : Nat} {s : zP} (h : l[k]? = some s) : zvZ f seq d p (l.drop k) = (zjb f seq d s.key && ((match p with | some q => !(decide (s.key ≤ q.key)) | none => true) && zvZ f seq d (some s) (l.drop (k + 1)))) := by
  have hk : k < l.length := (List.getElem?_eq_some_iff.1 h).1
  rw [List.drop_eq_getElem_cons hk, (List.getElem?_eq_some_iff.1 h).2]
  rfl
def aheadS (l : List zP) : Nat → Option zP
  | 0 => none
  | k + 1 => l[k]?
end Go.AW
