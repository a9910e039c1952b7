/- Byte strings and their numbers; what was signed. No program in sight. -/
import Derived.Test.YtdgcepphjnoalaaGreatSpDec
import Derived.Test.YtdgcepphjnoalaaGreatAwFrz
import Derived.Test.YtdgcepphjnoalaaGreatSpOp
import Derived.Test.YtdgcepphjnoalaaGreatRq1
import Derived.Test.YtdgcepphjnoalaaGreatSpUtf
set_option linter.all false
set_option linter.unusedSimpArgs false
set_option linter.unusedVariables false
namespace Go.AW

def zha : List (List UInt8) → List UInt8 → Nat → Option Nat
  | [], _, _ => none
  | x :: r, b, i => if b = x then some i else zha r b (i + 1)
def ziX (l : List (List UInt8)) (b : List UInt8) : Option Nat := zha l b 0
def numOf : Option Nat → Int
  | some i => ((i + 1 : Nat) : Int)
  | none => 0
def zie (l : List (List UInt8)) (b : List UInt8) : Int := match ziX l b with
  | some i => ((i + 1 : Nat) : Int)
  | none => if l.length ≥ 1048576 then 0 else ((l.length + 1 : Nat) : Int)
def zgt (l : List (List UInt8)) (b : List UInt8) : List (List UInt8) := match ziX l b with
  | some _ => l
  | none => if l.length ≥ 1048576 then l else l ++ [b]
abbrev tabE (l : List (List UInt8)) : List (List D) := l.map fun b => [D.slice (bcs b)]
def zpe : List (List UInt8) → Nat → List (AV × AV)
  | [], _ => []
  | x :: r, i => (.d (.str x), .d (.int .i64 ((i + 1 : Nat) : Int))) :: zpe r (i + 1)
def tabM (l : List (List UInt8)) : List (AV × AV) := zpe l 0

theorem zpN (b : List UInt8) : ∀ (l : List (List UInt8)) (i : Nat), zjq .str (.d (.str b)) (zpe l i) i = some ((zha l b i).map fun k => (k, .d (.int .i64 ((k + 1 : Nat) : Int))))
  | [], _ => rfl
  | x :: r, i => by
    simp only [zpe, zjq, zfn, zha]
    by_cases h : b = x
    · simp [h]
    · have : (b == x) = false := by simpa using h
      simp only [this, if_neg h]
      exact zpN b r (i + 1)
theorem mfind_tab (l : List (List UInt8)) (b : List UInt8) : zjq .str (.d (.str b)) (tabM l) 0 = some ((ziX l b).map fun k => (k, .d (.int .i64 ((k + 1 : Nat) : Int)))) := zpN b l 0
theorem tabMA_add (x : List UInt8) : ∀ (l : List (List UInt8)) (i : Nat), zpe (l ++ [x]) i = zpe l i ++ [(.d (.str x), .d (.int .i64 ((i + l.length + 1 : Nat) : Int)))]
  | [], i => by simp [zpe]
  | y :: r, i => by
    simp only [List.cons_append, zpe, tabMA_add x r (i + 1), List.length_cons]
    rw [show i + 1 + r.length + 1 = i + (r.length + 1) + 1 by omega]
theorem tabM_add (l : List (List UInt8)) (x : List UInt8) : tabM l ++ [(.d (.str x), .d (.int .i64 ((l.length + 1 : Nat) : Int)))] = tabM (l ++ [x]) := by
  unfold tabM
  rw [tabMA_add]; simp
theorem lookAt_lt {b : List UInt8} : ∀ {l : List (List UInt8)} {i k : Nat}, zha l b i = some k → i ≤ k ∧ k < i + l.length ∧ l[k - i]? = some b
  | [], _, _, h => by simp [zha] at h
  | x :: r, i, k, h => by
    simp only [zha] at h
    split at h
    · rename_i e
      cases h; subst e; simp
    · obtain ⟨h1, h2, h3⟩ := lookAt_lt h
      refine ⟨by omega, by simp; omega, ?_⟩
      obtain ⟨m, hm⟩ : ∃ m, k - i = m + 1 := ⟨k - i - 1, by omega⟩
      rw [hm, List.getElem?_cons_succ]
      rw [show k - (i + 1) = m by omega] at h3
      exact h3
theorem znE {l : List (List UInt8)} {b : List UInt8} {k : Nat} (h : ziX l b = some k) : k < l.length ∧ l[k]? = some b := by
  have := lookAt_lt h
  simpa using this.2
theorem zpT {b : List UInt8} {m : List (List UInt8)} : ∀ {l : List (List UInt8)} {i : Nat}, zha (l ++ m) b i = match zha l b i with | some k => some k | none => zha m b (i + l.length)
  | [], i => by simp [zha]
  | x :: r, i => by
    simp only [List.cons_append, zha, List.length_cons]
    split
    · rfl
    · rw [zpT, show i + 1 + r.length = i + (r.length + 1) by omega]
theorem zpS {l : List (List UInt8)} {b : List UInt8} (h : b ∉ l) : ziX l b = none := by
  cases e : ziX l b with
  | none => rfl
  | some k => exact absurd (List.mem_of_getElem? (znE e).2) h
theorem zqP {l : List (List UInt8)} {b : List UInt8} (h : ziX l b = none) : b ∉ l := by
  have key : ∀ (l : List (List UInt8)) (i : Nat), zha l b i = none → b ∉ l := by
    intro l
    induction l with
    | nil => intro i _; simp
    | cons x r ih =>
      intro i h
      simp only [zha] at h
      split at h
      · cases h
      · rename_i hne
        simp only [List.mem_cons, not_or]
        exact ⟨hne, ih _ h⟩
  exact key l 0 h
theorem look_more {l m : List (List UInt8)} {b : List UInt8} {k : Nat} (h : ziX l b = some k) : ziX (l ++ m) b = some k := by
  unfold ziX at h ⊢
  rw [zpT, h]

/-! what was signed -/
abbrev ledE (l : List zS) : List (List D) := zbQ l
def zpV (l : List zS) : List (AV × AV) := l.map fun s => (.agg [.d (.int .i64 s.key), .d (.int .i64 s.dig)], .d (.bool true))
def ledAt : List zS → zS → Nat → Option Nat
  | [], _, _ => none
  | x :: r, s, i => if s = x then some i else ledAt r s (i + 1)
theorem sign_keyEq (s x : zS) : zfn (.ints 2) (.agg [.d (.int .i64 s.key), .d (.int .i64 s.dig)]) (.agg [.d (.int .i64 x.key), .d (.int .i64 x.dig)]) = some (decide (s = x)) := by
  have e : s = x ↔ s.key = x.key ∧ s.dig = x.dig := by cases s; cases x; simp
  by_cases h1 : s.key = x.key
  · by_cases h2 : s.dig = x.dig
    · rw [decide_eq_true (e.2 ⟨h1, h2⟩)]
      simp [zfn, zbM, h1, h2]
    · rw [decide_eq_false (fun h => h2 (e.1 h).2)]
      have h2' : (s.dig == x.dig) = false := by simpa using h2
      simp [zfn, zbM, h1, h2']
  · rw [decide_eq_false (fun h => h1 (e.1 h).1)]
    have h1' : (s.key == x.key) = false := by simpa using h1
    simp [zfn, zbM, h1']
    try exact fun h => absurd h h1
theorem zmh (s : zS) : ∀ (l : List zS) (i : Nat), zjq (.ints 2) (.agg [.d (.int .i64 s.key), .d (.int .i64 s.dig)]) (zpV l) i = some ((ledAt l s i).map fun k => (k, .d (.bool true)))
  | [], _ => rfl
  | x :: r, i => by
    have ih := zmh s r (i + 1)
    simp only [zpV] at ih
    simp only [zpV, List.map_cons, zjq, sign_keyEq, ledAt]
    by_cases h : s = x
    · simp [h]
    · rw [decide_eq_false h, if_neg h]
      exact ih
theorem zmj {s : zS} : ∀ {l : List zS} {i : Nat}, ledAt l s i = none ↔ s ∉ l
  | [], i => by simp [ledAt]
  | x :: r, i => by
    simp only [ledAt, List.mem_cons, not_or]
    by_cases h : s = x
    · simp [h]
    · rw [if_neg h, zmj]; simp [h]
theorem zlq {l : List zS} {s : zS} (h : s ∈ l) : ∃ k, zjq (.ints 2) (.agg [.d (.int .i64 s.key), .d (.int .i64 s.dig)]) (zpV l) 0 = some (some (k, .d (.bool true))) := by
  rw [zmh]
  cases e : ledAt l s 0 with
  | none => exact absurd h (zmj.1 e)
  | some k => exact ⟨k, rfl⟩
theorem zmW {l : List zS} {s : zS} (h : s ∉ l) : zjq (.ints 2) (.agg [.d (.int .i64 s.key), .d (.int .i64 s.dig)]) (zpV l) 0 = some none := by
  rw [zmh, zmj.2 h]; rfl
theorem ledM_add (l : List zS) (s : zS) : zpV l ++ [(.agg [.d (.int .i64 s.key), .d (.int .i64 s.dig)], .d (.bool true))] = zpV (l ++ [s]) := by simp [zpV]
def signL (l : List zS) (s : zS) : List zS := if s ∈ l then l else l ++ [s]
def ziT (k d : Int) : Int := if k < 0 ∨ k ≥ 21 then 20 else if d < 1 then 1 else 0
theorem zhc {n : Nat} {σ' τ : List zc} {K : AV → List zc → Prop} {l : List AV} (hn : σ'.length = n) (h1 : Low n (dmT (zdg l))) (hl : zfz n σ') (h : K (dmT (zdg l)) σ') : Ends n K (some l) (σ' ++ τ) := by
  subst hn
  unfold Ends
  rw [zid]
  exact ⟨h1, hl, h⟩
theorem zqd {σ τ : List zc} {id t : Nat} {es : List (List D)} {X : zc} {K : AV → List zc → Prop} {l : List AV} (hT : σ[id]? = some X) (h1 : Low σ.length (dmT (zdg l))) (hl : zfz σ.length σ)
    (h : K (dmT (zdg l)) (σ.set id (.box [.d (.slice es)]))) : EndsW σ.length K (some l) (σ.set id (.box [.own t es]) ++ τ) := by
  refine ⟨_, .dataB id 0 [.own t es] (.own t es) es (zy (zhb hT)) rfl rfl (.refl _ _), ?_⟩
  rw [zig (zhb hT), List.set_set]
  refine zfp h1 hl ?_ h
  intro c hc
  simp only [List.set_cons_zero, List.mem_cons, List.not_mem_nil, or_false] at hc
  subst hc; exact .d _

def numR (most : Nat) : Nat → Nat → List UInt8 → Except Int (Nat × List UInt8)
  | _, _, [] => .error 10
  | i, acc, c :: r =>
    if i = 9 ∧ c.toNat > 1 then .error 11
    else if c.toNat < 128 then (if (i > 0 ∧ c.toNat = 0) ∨ acc + c.toNat * 128 ^ i > most then .error 11 else .ok (acc + c.toNat * 128 ^ i, r))
    else numR most (i + 1) (acc + c.toNat % 128 * 128 ^ i) r



def zpf (x : zt) : List UInt8 := zdC x.client.toNat ++ (zdC x.time.toNat ++ opB x.op)
def zlh (x : zt) : List UInt8 := if zaA x = 0 then zpf x else []
def signB (k d : Int) : List UInt8 := zdC k.toNat ++ zdC d.toNat
theorem req_ok {x : zt} (h : zaA x = 0) : 0 ≤ x.client ∧ x.client < 8 ∧ 1 ≤ x.time ∧ x.time ≤ 9007199254740992 ∧ zdm zjk x.op = 0 := by
  unfold zaA at h
  split at h
  · cases h
  · refine ⟨by omega, by omega, by omega, by omega, h⟩
theorem sign_ok {k d : Int} (h : zaF k d = 0) : 0 ≤ k ∧ k < 21 ∧ 1 ≤ d ∧ d ≤ 9007199254740992 := by
  unfold zaF at h
  split at h
  · cases h
  · omega
theorem opB_len {o : TOp} (h : opSz o ≤ 268435456) (hc : zdm zjk o = 0) : (opB o).length ≤ opSz o + 60 := by
  obtain ⟨k0, k4, o0, o1, _⟩ := check_ok hc
  have hr := zkA o.recs
  have hrb := zkh o.recs (by unfold opSz at h; omega) o.recs.length
  rw [List.take_length] at hrb
  unfold opSz at h ⊢
  have n1 := zP (n := o.kind.toNat) (by omega)
  have n2 := zP (n := o.topic.length) (by omega)
  have n3 := zP (n := o.group.length) (by omega)
  have n4 := zP (n := o.offset.toNat) (by omega)
  have n5 := zP (n := o.recs.length) (by omega)
  have hk : o.kind = 0 ∨ o.kind = 1 ∨ o.kind = 2 ∨ o.kind = 3 ∨ o.kind = 4 := by omega
  rcases hk with hk | hk | hk | hk | hk
  · rw [opB_0 hk]; omega
  · rw [opB_1 hk]; simp only [List.length_append]; omega
  · rw [opB_2 hk]; simp only [List.length_append]; omega
  · rw [opB_3 hk]; simp only [List.length_append]; omega
  · rw [opB_4 hk]; simp only [List.length_append]; omega
theorem reqB_len {x : zt} (h : opSz x.op ≤ 268435456) (hc : zaA x = 0) : (zpf x).length ≤ opSz x.op + 80 := by
  obtain ⟨c0, c8, t1, t2, ho⟩ := req_ok hc
  have := opB_len h ho
  have n1 := zP (n := x.client.toNat) (by omega)
  have n2 := zP (n := x.time.toNat) (by omega)
  simp only [zpf, List.length_append]; omega
theorem signB_len {k d : Int} (h : zaF k d = 0) : (signB k d).length ≤ 20 := by
  obtain ⟨k0, k1, d0, d1⟩ := sign_ok h
  have n1 := zP (n := k.toNat) (by omega)
  have n2 := zP (n := d.toNat) (by omega)
  simp only [signB, List.length_append]; omega

abbrev zlt (l : List Int) : List (List D) := l.map fun t => [D.int .i64 t]
def numOk (x : Int) : Bool := decide (0 ≤ x ∧ x ≤ 9007199254740992)
def zdH (l : List Int) : List UInt8 := (l.map fun x => zdC x.toNat).flatten
def voteB (a b c d : Int) : List UInt8 := 4 :: zdH [a, b, c, d]
theorem zpJ {l : List Int} {k : Nat} {x : Int} (h : l[k]? = some x) : zdH (l.take (k + 1)) = zdH (l.take k) ++ zdC x.toNat := by
  rw [List.take_add_one, h]; simp [zdH]
theorem zoc {l : List Int} (h : ∀ x ∈ l, x < 9223372036854775808) : (zdH l).length ≤ l.length * 10 := by
  induction l with
  | nil => simp [zdH]
  | cons x l ih =>
    have h1 := h x (by simp)
    have h2 := zP (n := x.toNat) (by omega)
    have h3 := ih fun y hy => h y (by simp [hy])
    simp only [zdH, List.map_cons, List.flatten_cons, List.length_append, List.length_cons] at h3 ⊢
    omega
def zkx (L : List (List UInt8)) (G : List zS) (s : zS) (key : Int) (b : List UInt8) : Bool := match ziX L b with
  | some i => decide (s.key = key ∧ s.dig = ((i + 1 : Nat) : Int)) && decide (s ∈ G)
  | none => false

structure zpc where
  seq : Int
  prev : Int
  batch : Int
  root : Int
  state : Int
deriving DecidableEq
def hdrL (h : zpc) : List Int := [h.seq, h.prev, h.batch, h.root, h.state]
abbrev hdrD (h : zpc) : List D := [.int .i64 h.seq, .int .i64 h.prev, .int .i64 h.batch, .int .i64 h.root, .int .i64 h.state]
abbrev zqR (l : List zpc) : List (List D) := l.map hdrD
def hdrOk (h : zpc) : Bool := (hdrL h).all numOk
def hdrB (h : zpc) : List UInt8 := 3 :: zdH (hdrL h)
structure ziD where
  topic : List UInt8
  offset : Int
  rec_ : List UInt8
def placedB (p : ziD) : List UInt8 := putB p.topic ++ (zdC p.offset.toNat ++ putB p.rec_)

def zhA : List Int → Int
  | [] => 0
  | e :: r => if e ≠ 0 then e else zhA r
theorem fstE_app (a b : List Int) : zhA (a ++ b) = if zhA a ≠ 0 then zhA a else zhA b := by
  induction a with
  | nil => simp [zhA]
  | cons e r ih =>
    simp only [List.cons_append, zhA, ih]
    by_cases h : e = 0
    · simp [h]
    · simp [h]
def thnE (e x : Int) : Int := if e ≠ 0 then e else x
def inE (n lo hi : Int) : Int := if n < lo ∨ n > hi then 100 else 0
def zod (n : Int) : Int := inE n 0 9007199254740992
def posE (n : Int) : Int := inE n 1 9007199254740992
def nameE (s : List UInt8) : Int := if zjk s = true then 0 else 61
def zqC (l : List zS) : List Int := inE l.length 0 13 :: l.map fun s => zaF s.key s.dig
def certMid (c : zlL) : Int := if ((c.seq = 0) ≠ (c.dig = 0)) ∨ (c.seq = 0 ∧ 0 < c.signs.length) then 100 else 0
def zrc (c : zlL) : List Int := zod c.seq :: zod c.dig :: certMid c :: zqC c.signs
def hdrErr (h : zpc) : List Int := [posE h.seq, zod h.prev, zod h.batch, zod h.root, zod h.state]
structure zhR where
  topic : List UInt8
  offset : Int
  rec_ : List UInt8
  headers : List zpc
  index : Int
  count : Int
  path : List Int
  cert : zlL
abbrev proofD (p : zhR) : List D := [.str p.topic, .int .i64 p.offset, .slice (bcs p.rec_), .slice (zqR p.headers), .int .i64 p.index, .int .i64 p.count, .slice (zlt p.path), .int .i64 p.cert.seq, .int .i64 p.cert.dig, .slice (zbQ p.cert.signs)]
abbrev proofA (p : zhR) : AV := .agg [.d (.str p.topic), .d (.int .i64 p.offset), .d (.slice (bcs p.rec_)), .d (.slice (zqR p.headers)), .d (.int .i64 p.index), .d (.int .i64 p.count), .d (.slice (zlt p.path)), .d (.int .i64 p.cert.seq), .d (.int .i64 p.cert.dig), .d (.slice (zbQ p.cert.signs))]
abbrev certA (c : zlL) : AV := .agg [.d (.int .i64 c.seq), .d (.int .i64 c.dig), .d (.slice (zbQ c.signs))]
def proofErr1 (p : zhR) : List Int := [nameE p.topic, zod p.offset, inE p.rec_.length 0 64, inE p.headers.length 0 64]
def proofErr2 (p : zhR) : List Int := [zod p.index, inE p.count 0 16]
def proofErr3 (p : zhR) : List Int := [inE p.index 0 (p.count - 1), inE p.path.length 0 8]
def proofErr (p : zhR) : List Int := proofErr1 p ++ ((p.headers.map hdrErr).flatten ++ (proofErr2 p ++ (proofErr3 p ++ (p.path.map zod ++ zrc p.cert))))
theorem inE_0 {n lo hi : Int} (h : inE n lo hi = 0) : lo ≤ n ∧ n ≤ hi := by
  unfold inE at h
  split at h
  · cases h
  · omega
theorem numE_0 {n : Int} (h : zod n = 0) : 0 ≤ n ∧ n ≤ 9007199254740992 := inE_0 h
end Go.AW
