/- Batches are sealed one after the other; what tables and ledgers hold. -/
import Derived.Test.YtdgcepphjnoalaaGreatSpPool
import Derived.Test.YtdgcepphjnoalaaGreatSpBulk
import Derived.Test.YtdgcepphjnoalaaGreatSpDec
import Derived.Test.YtdgcepphjnoalaaGreatAu3
import Derived.Test.YtdgcepphjnoalaaGreatSpTab
import Derived.Test.YtdgcepphjnoalaaGreatSpReq3
set_option linter.all false
set_option maxRecDepth 100000
set_option linter.unusedSimpArgs false
set_option linter.unusedVariables false
namespace Go.Proofs.YtdgcepphjnoalaaGreat
open Go.AW

structure SeI (n m : Nat) (s : List (List UInt8) × List zS × List zt) : Prop where
  tab : znL s.1
  led : s.2.1.length ≤ n
  sz : ∀ x ∈ s.2.2, opSz x.op ≤ 20971520
  len : s.2.2.length ≤ m
theorem sum_take {l : List (List UInt8)} {k : Nat} {x : List UInt8} (hn : l.Nodup) (hl0 : l.length ≤ 1048576) (hx : l[k]? = some x) : zgt (l.take k) x = l.take (k + 1) := by
  have hk := (List.getElem?_eq_some_iff.1 hx).1
  have hnot : x ∉ l.take k := fun hm => by
    obtain ⟨i, hi, he⟩ := List.mem_take_iff_getElem.1 hm
    have := (List.getElem_inj hn).1 (he.trans (List.getElem?_eq_some_iff.1 hx).2.symm)
    omega
  have hno := zpS hnot
  have h1 : (l.take k).length = k := by rw [List.length_take]; omega
  rw [zgt, hno]
  simp only [h1]
  rw [if_neg (by omega), List.take_add_one, hx]; rfl
structure LedI (G : List zS) : Prop where
  nd : G.Nodup
  ok : ∀ g ∈ G, ziT g.key g.dig = 0
theorem LedI.sign {G : List zS} (h : LedI G) (k d : Int) : LedI (zje G k d) := by
  unfold zje
  split
  · rename_i hs
    unfold signL
    split
    · exact h
    · rename_i hn
      refine ⟨?_, fun g hg => ?_⟩
      · rw [List.nodup_append]
        refine ⟨h.nd, by simp, fun a ha b hb e => ?_⟩
        simp only [List.mem_singleton] at hb
        subst e hb
        exact hn ha
      · rcases List.mem_append.1 hg with hg | hg
        · exact h.ok g hg
        · simp only [List.mem_singleton] at hg
          subst hg; exact hs
  · exact h
end Go.Proofs.YtdgcepphjnoalaaGreat

/- Sets of brokers as numbers. No program in sight. -/
set_option linter.unusedSimpArgs false
set_option linter.unusedVariables false
namespace Go.AW

end Go.AW

/- Contracts: sets of brokers, the document's, to the last bit. -/
set_option maxRecDepth 100000
set_option linter.unusedSimpArgs false
set_option linter.unusedVariables false
namespace Go.Proofs.YtdgcepphjnoalaaGreat
open Go.AW


structure zqp where
  L : List (List UInt8)
  G : List zS
  h : zpc
  T : zmE
  bs : List ziK
  cs : List zlL
def st0 : zqp := ⟨(genF []).2.2, [], (genF []).1, zmM, [], []⟩
structure StI (N m : Nat) (s : zqp) : Prop where
  tab : znL s.L
  led : s.G.length ≤ N
  ledI : LedI s.G
  tops : TopsI s.T
  last : LastI s.T.last
  last8 : s.T.last.length = 8
  bs : ∀ b ∈ s.bs, smallBk b
  bl : s.bs.length ≤ m
  cs : ∀ c ∈ s.cs, c.signs.length ≤ 13
  cl : s.cs.length ≤ m
structure VoI (N m : Nat) (s : List (List UInt8) × List zS × List zS) : Prop where
  tab : znL s.1
  led : s.2.1.length ≤ N
  ledI : LedI s.2.1
  len : s.2.2.length ≤ m
theorem LastI.none : LastI zmM.last := fun a ha => by
  have := List.eq_of_mem_replicate ha
  subst this
  simp
end Go.Proofs.YtdgcepphjnoalaaGreat

/- Numbers of what a table knows; trees in a table: what a proof shows, and that a made proof shows it. No program in sight. -/
set_option linter.unusedSimpArgs false
set_option linter.unusedVariables false
namespace Go.AW

def zhH (L : List (List UInt8)) (b : List UInt8) (d : Int) : Prop := ∃ i, ziX L b = some i ∧ d = ((i + 1 : Nat) : Int)
theorem zhH.pre {L L' : List (List UInt8)} {b : List UInt8} {d : Int} (h : zhH L b d) (hp : L <+: L') : zhH L' b d := by
  obtain ⟨i, h1, h2⟩ := h
  obtain ⟨m, rfl⟩ := hp
  exact ⟨i, look_more h1, h2⟩
theorem zhH.pos {L : List (List UInt8)} {b : List UInt8} {d : Int} (h : zhH L b d) : 1 ≤ d ∧ d ≤ L.length := by
  obtain ⟨i, h1, h2⟩ := h
  have := (znE h1).1
  omega
theorem zhH.inj {L : List (List UInt8)} {a b : List UInt8} {d : Int} (ha : zhH L a d) (hb : zhH L b d) : a = b := by
  obtain ⟨i, h1, h2⟩ := ha
  obtain ⟨j, h3, h4⟩ := hb
  have : i = j := by omega
  subst this
  have := (znE h1).2
  rw [(znE h3).2] at this
  exact (Option.some.inj this).symm
theorem zhH.one {L : List (List UInt8)} {b : List UInt8} {d e : Int} (ha : zhH L b d) (hb : zhH L b e) : d = e := by
  obtain ⟨i, h1, h2⟩ := ha
  obtain ⟨j, h3, h4⟩ := hb
  rw [h1] at h3
  cases h3
  omega
theorem zhH.sum {L : List (List UInt8)} {b : List UInt8} {d : Int} (h : zhH L b d) : zie L b = d ∧ zgt L b = L := by
  obtain ⟨i, h1, h2⟩ := h
  unfold zie zgt
  rw [h1]
  exact ⟨by simp only; omega, rfl⟩
inductive zhY (L : List (List UInt8)) : List (List UInt8) → Int → Prop
  | nil (d : Int) : zhH L [2] d → zhY L [] d
  | one (x : List UInt8) (d : Int) : zhH L (leafB x) d → zhY L [x] d
  | two (l : List (List UInt8)) (a b d : Int) : 2 ≤ l.length → zhY L (l.take (zbv l.length)) a → zhY L (l.drop (zbv l.length)) b → zhH L (nodeB a b) d → zhY L l d
theorem zhY.pre {L L' : List (List UInt8)} {l : List (List UInt8)} {d : Int} (h : zhY L l d) (hp : L <+: L') : zhY L' l d := by
  induction h with
  | nil d h => exact .nil d (h.pre hp)
  | one x d h => exact .one x d (h.pre hp)
  | two l a b d h2 _ _ hn ih1 ih2 => exact .two l a b d h2 ih1 ih2 (hn.pre hp)
theorem zhY.num {L l : List (List UInt8)} {d : Int} (h : zhY L l d) : 1 ≤ d ∧ d ≤ L.length := by
  cases h with
  | nil _ h => exact h.pos
  | one _ _ h => exact h.pos
  | two _ _ _ _ _ _ _ h => exact h.pos
theorem zhY.rootF {L l : List (List UInt8)} {d : Int} (h : zhY L l d) : rootF L l = (d, L) := by
  induction h with
  | nil d h => rw [rootF_0, h.sum.1, h.sum.2]
  | one x d h => rw [rootF_1, h.sum.1, h.sum.2]
  | two l a b d h2 _ _ hn ih1 ih2 => rw [rootF_2 h2, ih1]; simp only; rw [ih2]; simp only; rw [hn.sum.1, hn.sum.2]
end Go.AW

/- What the blocks of a beginning are: chained headers, each over its records' tree; who has signed what. No program in sight. -/
set_option maxRecDepth 100000
set_option linter.unusedSimpArgs false
set_option linter.unusedVariables false
namespace Go.Proofs.YtdgcepphjnoalaaGreat
open Go.AW

structure BlkI (L : List (List UInt8)) (b : ziK) : Prop where
  ok : hdrOk b.header = true
  root : zhY L (b.placed.map placedB) b.header.root
  pl : ∀ p ∈ b.placed, PlI p ∧ zjk p.topic = true
  cnt : b.placed.length ≤ 16
theorem BlkI.pre {L L' : List (List UInt8)} {b : ziK} (h : BlkI L b) (hp : L <+: L') : BlkI L' b := ⟨h.ok, h.root.pre hp, h.pl, h.cnt⟩
def LinkI (L : List (List UInt8)) (q h : zpc) : Prop := zhH L (hdrB q) h.prev ∧ h.seq = q.seq + 1
def lastH : zpc → List ziK → zpc
  | q, [] => q
  | _, b :: r => lastH b.header r
def ChI (L : List (List UInt8)) : zpc → List ziK → Prop
  | _, [] => True
  | q, b :: r => LinkI L q b.header ∧ ChI L b.header r
theorem ChI.pre {L L' : List (List UInt8)} (hp : L <+: L') : ∀ {bs : List ziK} {q : zpc}, ChI L q bs → ChI L' q bs
  | [], _, _ => trivial
  | b :: r, q, h => ⟨⟨h.1.1.pre hp, h.1.2⟩, ChI.pre hp h.2⟩
theorem ChI.snoc {L : List (List UInt8)} {b : ziK} : ∀ {bs : List ziK} {q : zpc}, ChI L q bs → LinkI L (lastH q bs) b.header → ChI L q (bs ++ [b])
  | [], _, _, h => ⟨h, trivial⟩
  | c :: r, q, h, hl => ⟨h.1, ChI.snoc h.2 hl⟩

structure CrtI (ks : List Int) (L : List (List UInt8)) (G : List zS) (bs : List ziK) (c : zlL) : Prop where
  blk : ∃ b ∈ bs, c.seq = b.header.seq ∧ zhH L (hdrB b.header) c.dig
  four : c.seq.tmod 4 = 0
  sgs : ∃ v, c.signs = ks.map (fun k => ⟨k, v⟩) ∧ ∀ k ∈ ks, (⟨k, v⟩ : zS) ∈ G ∧ zhH L (voteB 6 0 c.seq c.dig) v
theorem CrtI.pre {ks : List Int} {L L' : List (List UInt8)} {G G' : List zS} {bs bs' : List ziK} {c : zlL} (h : CrtI ks L G bs c) (hp : L <+: L') (hg : ∀ x ∈ G, x ∈ G') (hb : ∀ x ∈ bs, x ∈ bs') : CrtI ks L' G' bs' c := by
  obtain ⟨⟨b, h1, h2, h3⟩, h4, v, h5, h6⟩ := h
  exact ⟨⟨b, hb b h1, h2, h3.pre hp⟩, h4, v, h5, fun k hk => ⟨hg _ (h6 k hk).1, (h6 k hk).2.pre hp⟩⟩
structure HistI (ks : List Int) (g : zpc) (s : zqp) : Prop where
  ch : ChI s.L g s.bs
  blk : ∀ b ∈ s.bs, BlkI s.L b
  last : s.h = lastH g s.bs
  crt : ∀ c ∈ s.cs, CrtI ks s.L s.G s.bs c
  sg : ∀ x ∈ s.G, 13 ≤ x.key ∨ ∃ c ∈ s.cs, zhH s.L (voteB 6 0 c.seq c.dig) x.dig
end Go.Proofs.YtdgcepphjnoalaaGreat

/- Two quorums have one that is not faulty; a vote's bytes say what it is. No program in sight. -/
set_option linter.unusedSimpArgs false
set_option linter.unusedVariables false
namespace Go.AW

end Go.AW

/- What is taken as proved was put: where all but f have signed checkpoints of these blocks alone. No program in sight. -/
set_option maxRecDepth 100000
set_option linter.unusedSimpArgs false
set_option linter.unusedVariables false
namespace Go.Proofs.YtdgcepphjnoalaaGreat
open Go.AW


def zpL (T : zmE) : List (List UInt8) := T.l.map zde.name
structure ApU (T T' : zmE) (P : List ziD) : Prop where
  nd : (zpL T').Nodup
  mono : ∀ x ∈ T.l, ∃ x' ∈ T'.l, x'.name = x.name ∧ x.next ≤ x'.next
  old : ∀ p ∈ P, ∃ x' ∈ T'.l, x'.name = p.topic ∧ p.offset < x'.next
  new : ∀ p ∈ P, ∀ x ∈ T.l, x.name = p.topic → x.next ≤ p.offset
theorem ApU.trans {T T1 T2 : zmE} {P Q : List ziD} (h : ApU T T1 P) (g : ApU T1 T2 Q) : ApU T T2 (P ++ Q) := by
  refine ⟨g.nd, fun x hx => ?_, fun p hp => ?_, fun p hp x hx hn => ?_⟩
  · obtain ⟨y, h1, h2, h3⟩ := h.mono x hx
    obtain ⟨z, g1, g2, g3⟩ := g.mono y h1
    exact ⟨z, g1, g2.trans h2, Int.le_trans h3 g3⟩
  · rcases List.mem_append.1 hp with hp | hp
    · obtain ⟨y, h1, h2, h3⟩ := h.old p hp
      obtain ⟨z, g1, g2, g3⟩ := g.mono y h1
      exact ⟨z, g1, g2.trans h2, by omega⟩
    · exact g.old p hp
  · rcases List.mem_append.1 hp with hp | hp
    · exact h.new p hp x hx hn
    · obtain ⟨y, h1, h2, h3⟩ := h.mono x hx
      have := g.new p hp y h1 (h2.trans hn)
      omega
theorem ApU.set {T : zmE} {i : Nat} {x x' : zde} (h : (zpL T).Nodup) (hx : T.l[i]? = some x) (hn : x'.name = x.name) (hx' : x.next ≤ x'.next) (la : List (Int × Int × Int)) : ApU T ⟨T.l.set i x', la⟩ [] := by
  have hi := (List.getElem?_eq_some_iff.1 hx).1
  refine ⟨?_, fun y hy => ?_, by simp, by simp⟩
  · have : zpL ⟨T.l.set i x', la⟩ = zpL T := by
      simp only [zpL, List.map_set]
      rw [hn]
      have hg : (T.l.map zde.name)[i]? = some x.name := by rw [List.getElem?_map, hx]; rfl
      exact zdP hg
    rw [this]; exact h
  · obtain ⟨j, hj, rfl⟩ := List.mem_iff_getElem.1 hy
    by_cases e : i = j
    · subst e
      have : T.l[i] = x := (List.getElem?_eq_some_iff.1 hx).2
      refine ⟨x', List.mem_iff_getElem.2 ⟨i, by simpa using hi, by simp⟩, by rw [hn, this], by rw [this]; exact hx'⟩
    · exact ⟨T.l[j], List.mem_iff_getElem.2 ⟨j, by simpa using hj, by simp [e]⟩, rfl, Int.le_refl _⟩
theorem ApU.last {T T' : zmE} {P : List ziD} (h : ApU T T' P) (la : List (Int × Int × Int)) : ApU T { T' with last := la } P := ⟨h.nd, h.mono, h.old, h.new⟩
structure UqI (s : zqp) : Prop where
  nd : (zpL s.T).Nodup
  old : ∀ b ∈ s.bs, ∀ p ∈ b.placed, ∃ x ∈ s.T.l, x.name = p.topic ∧ p.offset < x.next
  one : ∀ (i j : Nat) (a b : ziK), s.bs[i]? = some a → s.bs[j]? = some b → ∀ p ∈ a.placed, ∀ q ∈ b.placed, p.topic = q.topic → p.offset = q.offset → i = j


theorem StI.mono {N m N' m' : Nat} {s : zqp} (h : StI N m s) (h1 : N ≤ N') (h2 : m ≤ m') : StI N' m' s :=
  ⟨h.tab, Nat.le_trans h.led h1, h.ledI, h.tops, h.last, h.last8, h.bs, Nat.le_trans h.bl h2, h.cs, Nat.le_trans h.cl h2⟩
theorem HistI.grow {ks : List Int} {g : zpc} {s : zqp} {L : List (List UInt8)} {G : List zS} (h : HistI ks g s) (hp : s.L <+: L) (hg : ∀ x ∈ s.G, x ∈ G) (hn : ∀ x ∈ G, x ∈ s.G ∨ 13 ≤ x.key) : HistI ks g { s with L := L, G := G } :=
  ⟨h.ch.pre hp, fun b hb => (h.blk b hb).pre hp, h.last, fun c hc => (h.crt c hc).pre hp hg fun x hx => hx, fun x hx => by
    rcases hn x hx with hx | hx
    · rcases h.sg x hx with h1 | ⟨c, h1, h2⟩
      · exact .inl h1
      · exact .inr ⟨c, h1, h2.pre hp⟩
    · exact .inl hx⟩

end Go.Proofs.YtdgcepphjnoalaaGreat
