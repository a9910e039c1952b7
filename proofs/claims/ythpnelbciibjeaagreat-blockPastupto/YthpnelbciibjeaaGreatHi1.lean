/- What the blocks of a beginning are: chained headers, each over its records' tree; who has signed what. No program in sight. -/
import Derived.Test.YthpnelbciibjeaaGreatBg0
import Derived.Test.YthpnelbciibjeaaGreatSpChk
import Derived.Test.YthpnelbciibjeaaGreatMk2
import Derived.Test.YthpnelbciibjeaaGreatSpUtf
import Derived.Test.YthpnelbciibjeaaGreatSh
import Derived.Shelf.SortM.Plain
import Derived.Shelf.SortM.SortNone
import Derived.Ground.SlgmProg
set_option linter.all false
set_option maxRecDepth 100000
set_option linter.unusedSimpArgs false
set_option linter.unusedVariables false
namespace Go.Proofs.YthpnelbciibjeaaGreat
open Go.AW

theorem atF_name {n : List UInt8} : ∀ {l : List zai} {j k : Nat}, atF n l j = some k → ∃ x, l[k - j]? = some x ∧ x.name = n
  | [], _, _, h => by simp [atF] at h
  | x :: r, j, k, h => by
    simp only [atF] at h
    split at h
    · rename_i e
      cases h
      exact ⟨x, by simp, by simpa using e⟩
    · obtain ⟨y, h1, h2⟩ := atF_name h
      have := (atF_lt h).1
      exact ⟨y, by rw [show k - j = (k - (j + 1)) + 1 by omega]; simpa using h1, h2⟩
theorem zlC {t : List UInt8} : ∀ {l : List (List UInt8)} {o : Int}, ∀ p ∈ zdr t o l, p.topic = t
  | [], _, p, h => by simp [zdr] at h
  | r :: l, o, p, h => by
    rcases List.mem_cons.1 h with rfl | h
    · rfl
    · exact zlC p h
theorem check_recs {o : TOp} (h : zV zbH o = 0) (hk : o.kind = 2) : o.recs.length ≤ 4 := by
  unfold zV at h
  split at h
  · simp at h
  · split at h
    · simp at h
    · split at h
      · simp at h
      · split at h
        · simp at h
        · rename_i h4
          rcases Nat.lt_or_ge 4 o.recs.length with hl | hl
          · exact absurd ⟨hk, .inr (.inl hl)⟩ h4
          · exact hl
theorem doesN (T : zad) (o : TOp) : (∀ p ∈ (zbI T o).2.1, zbH p.topic = true) ∧ (zbI T o).2.1.length ≤ 4 := by
  unfold zbI
  split
  · simp
  · rename_i hc
    have hc : zV zbH o = 0 := by simpa using hc
    split
    · simp
    · rename_i hk0
      split
      · simp
      · split
        · simp
        · rename_i i hi
          split
          · simp
          · rename_i x hx
            split
            · rename_i hk
              unfold zdu
              split
              · simp
              · obtain ⟨y, h1, h2⟩ := atF_name hi
                rw [Nat.sub_zero, hx] at h1
                cases h1
                refine ⟨fun p hp => ?_, ?_⟩
                · rw [zlC p hp, h2]
                  exact (check0 hc).2.2.1 hk0
                · rw [ziB]; exact check_recs hc hk
            · split <;> simp
theorem applyN (T : zad) (c tm : Int) (o : TOp) : (∀ p ∈ (zbt T c tm o).2.1, zbH p.topic = true) ∧ (zbt T c tm o).2.1.length ≤ 4 := by
  unfold zbt
  repeat' split
  all_goals first | (simp; done) | exact doesN T o
theorem znC : ∀ (l : List zf) (T : zad), (∀ p ∈ (zm T l).1, zbH p.topic = true) ∧ (zm T l).1.length ≤ l.length * 4
  | [], _ => by simp [zm]
  | x :: l, T => by
    obtain ⟨h1, h2⟩ := applyN T x.client x.time x.op
    obtain ⟨h3, h4⟩ := znC l (zbt T x.client x.time x.op).2.2.2
    refine ⟨fun p hp => ?_, ?_⟩
    · simp only [zm] at hp
      rcases List.mem_append.1 hp with hp | hp
      · exact h1 p hp
      · exact h3 p hp
    · simp only [zm, List.length_append, List.length_cons]; omega

structure BlkI (L : List (List UInt8)) (b : zig) : Prop where
  ok : zgl b.header = true
  root : zen L (b.placed.map zaH) b.header.root
  pl : ∀ p ∈ b.placed, PlI p ∧ zbH p.topic = true
  cnt : b.placed.length ≤ 16
theorem BlkI.pre {L L' : List (List UInt8)} {b : zig} (h : BlkI L b) (hp : L <+: L') : BlkI L' b := ⟨h.ok, h.root.pre hp, h.pl, h.cnt⟩
def LinkI (L : List (List UInt8)) (q h : zbZ) : Prop := zeq L (zlX q) h.prev ∧ h.seq = q.seq + 1
def lastH : zbZ → List zig → zbZ
  | q, [] => q
  | _, b :: r => lastH b.header r
def ChI (L : List (List UInt8)) : zbZ → List zig → Prop
  | _, [] => True
  | q, b :: r => LinkI L q b.header ∧ ChI L b.header r
theorem ChI.pre {L L' : List (List UInt8)} (hp : L <+: L') : ∀ {bs : List zig} {q : zbZ}, ChI L q bs → ChI L' q bs
  | [], _, _ => trivial
  | b :: r, q, h => ⟨⟨h.1.1.pre hp, h.1.2⟩, ChI.pre hp h.2⟩
theorem ChI.snoc {L : List (List UInt8)} {b : zig} : ∀ {bs : List zig} {q : zbZ}, ChI L q bs → LinkI L (lastH q bs) b.header → ChI L q (bs ++ [b])
  | [], _, _, h => ⟨h, trivial⟩
  | c :: r, q, h, hl => ⟨h.1, ChI.snoc h.2 hl⟩
theorem digL_pre (L : List (List UInt8)) (l : List zf) : L <+: zdF L l ∧ (zdF L l).length ≤ L.length + 1 := by
  unfold zdF
  split
  · exact ⟨List.prefix_refl L, by omega⟩
  · exact ⟨zdL .., zgQ ..⟩
theorem hdigL_pre (L : List (List UInt8)) (h : zbZ) : L <+: zdh L h ∧ (zdh L h).length ≤ L.length + 1 := by
  unfold zdh
  split
  · exact ⟨List.prefix_refl L, by omega⟩
  · exact ⟨zdL .., zgQ ..⟩
theorem zme {L : List (List UInt8)} {b : List UInt8} (h : L.length ≤ 1048576) : 0 ≤ zex L b ∧ zex L b ≤ 1048577 := by
  unfold zex
  split
  · rename_i i hi; have := (ziI hi).1; omega
  · split <;> omega
theorem exec_hist {L : List (List UInt8)} {T : zad} {h : zbZ} {b : List zf} (hT : zcD T) (hL : L.length + 600 ≤ 1048576) :
    L <+: (zha L T h b).L ∧ (zha L T h b).L.length ≤ L.length + 520 ∧
    ((zha L T h b).e = 0 → BlkI (zha L T h b).L ⟨(zha L T h b).h, b, (zha L T h b).p⟩ ∧ LinkI (zha L T h b).L h (zha L T h b).h) := by
  obtain ⟨d1, d2⟩ := digL_pre L b
  obtain ⟨d3, d4⟩ := hdigL_pre (zdF L b) h
  unfold zha
  split
  · rename_i c0; exact ⟨List.prefix_refl L, by simp only; omega, fun e => absurd e c0⟩
  rename_i c0
  have c0 : zaQ h = 0 := Classical.not_not.1 c0
  split
  · exact ⟨List.prefix_refl L, by simp only; omega, fun e => by simp at e⟩
  rename_i c1
  split
  · rename_i c2; exact ⟨d1, by simp only; omega, fun e => absurd e c2⟩
  rename_i c2
  have c2 : digE L b = 0 := Classical.not_not.1 c2
  split
  · rename_i c3; exact ⟨d1.trans d3, by simp only; omega, fun e => absurd e c3⟩
  rename_i c3
  have c3 : hdigE (zdF L b) h = 0 := Classical.not_not.1 c3
  have hb4 := zpL c2
  have p1 := zie b hT
  have p2 := znC b T
  have hn : ((zm T b).1.map zaH).length ≤ 16 := by rw [List.length_map]; have := p2.2; omega
  obtain ⟨r1, r2, r3, _⟩ := root_at ((zm T b).1.map zaH).length (L := zdh (zdF L b) h) (l := (zm T b).1.map zaH) (Nat.le_refl _) (by omega)
  have s1 := zdL (rootF (zdh (zdF L b) h) ((zm T b).1.map zaH)).2 (zbq (zm T b).2)
  have s2 := zgQ (rootF (zdh (zdF L b) h) ((zm T b).1.map zaH)).2 (zbq (zm T b).2)
  simp only
  split
  · exact ⟨((d1.trans d3).trans r2).trans s1, by simp only; omega, fun e => by simp at e⟩
  · rename_i c4
    refine ⟨((d1.trans d3).trans r2).trans s1, by simp only; omega, fun _ => ⟨⟨?_, r1.pre s1, fun p hp => ⟨p1.1 p hp, p2.1 p hp⟩, by simp only; have := p2.2; omega⟩, ?_, rfl⟩⟩
    · have hseq := zeI (zdt.1 c0) h.seq (by simp [zjM])
      have g1 : zhO (h.seq + 1) = true := zeG.2 (by omega)
      have g2 : zhO (zmY (zdF L b) h) = true := by
        rw [zmY, if_neg (by simp [c0])]
        have := zme (L := zdF L b) (b := zlX h) (by omega)
        exact zeG.2 (by omega)
      have g3 : zhO (zoI L b) = true := by
        have hcb : ¬ zh b ≠ 0 := fun hc => by rw [digE, if_pos hc] at c2; exact hc c2
        rw [zoI, if_neg hcb]
        have := zme (L := L) (b := zdb b) (by omega)
        exact zeG.2 (by omega)
      have g4 := r1.num
      have g4' : zhO (rootF (zdh (zdF L b) h) ((zm T b).1.map zaH)).1 = true := zeG.2 (by omega)
      have g5 := zme (L := (rootF (zdh (zdF L b) h) ((zm T b).1.map zaH)).2) (b := zbq (zm T b).2) (by omega)
      have g5' : zhO (zex (rootF (zdh (zdF L b) h) ((zm T b).1.map zaH)).2 (zbq (zm T b).2)) = true := zeG.2 (by omega)
      simp [zgl, zjM, g1, g2, g3, g4', g5']
    · have e1 : zmY (zdF L b) h = zex (zdF L b) (zlX h) := by rw [zmY, if_neg (by simp [c0])]
      have e2 : zdh (zdF L b) h = zee (zdF L b) (zlX h) := by rw [zdh, if_neg (by simp [c0])]
      have n0 : zex (zdF L b) (zlX h) ≠ 0 := zjR (by omega)
      show zeq _ (zlX h) (zmY (zdF L b) h)
      rw [e1]
      have := zlw n0
      rw [← e2] at this
      exact this.pre (r2.trans s1)
/-! signatures -/

structure CrtI (ks : List Int) (L : List (List UInt8)) (G : List zcb) (bs : List zig) (c : TCert) : Prop where
  blk : ∃ b ∈ bs, c.seq = b.header.seq ∧ zeq L (zlX b.header) c.dig
  four : c.seq.tmod 4 = 0
  sgs : ∃ v, c.signs = ks.map (fun k => ⟨k, v⟩) ∧ ∀ k ∈ ks, (⟨k, v⟩ : zcb) ∈ G ∧ zeq L (voteB 6 0 c.seq c.dig) v
theorem CrtI.pre {ks : List Int} {L L' : List (List UInt8)} {G G' : List zcb} {bs bs' : List zig} {c : TCert} (h : CrtI ks L G bs c) (hp : L <+: L') (hg : ∀ x ∈ G, x ∈ G') (hb : ∀ x ∈ bs, x ∈ bs') : CrtI ks L' G' bs' c := by
  obtain ⟨⟨b, h1, h2, h3⟩, h4, v, h5, h6⟩ := h
  exact ⟨⟨b, hb b h1, h2, h3.pre hp⟩, h4, v, h5, fun k hk => ⟨hg _ (h6 k hk).1, (h6 k hk).2.pre hp⟩⟩
structure HistI (ks : List Int) (g : zbZ) (s : TStage) : Prop where
  ch : ChI s.L g s.bs
  blk : ∀ b ∈ s.bs, BlkI s.L b
  last : s.h = lastH g s.bs
  crt : ∀ c ∈ s.cs, CrtI ks s.L s.G s.bs c
  sg : ∀ x ∈ s.G, 13 ≤ x.key ∨ ∃ c ∈ s.cs, zeq s.L (voteB 6 0 c.seq c.dig) x.dig
end Go.Proofs.YthpnelbciibjeaaGreat

/- Two quorums have one that is not faulty; a vote's bytes say what it is. No program in sight. -/
set_option linter.unusedSimpArgs false
set_option linter.unusedVariables false
namespace Go.AW

end Go.AW

/- What is taken as proved was put: where all but f have signed checkpoints of these blocks alone. No program in sight. -/
set_option maxRecDepth 100000
set_option linter.unusedSimpArgs false
set_option linter.unusedVariables false
namespace Go.Proofs.YthpnelbciibjeaaGreat
open Go.AW

theorem hdrB_inj {a b : zbZ} (ha : zgl a = true) (hb : zgl b = true) (h : zlX a = zlX b) : a = b := by
  have ra := zeI ha; have rb := zeI hb
  simp only [zlX, zjM, zkV, List.map_cons, List.map_nil, List.flatten_cons, List.flatten_nil, List.append_nil, List.cons.injEq, true_and] at h
  have a1 := ra a.seq (by simp [zjM]); have a2 := ra a.prev (by simp [zjM]); have a3 := ra a.batch (by simp [zjM]); have a4 := ra a.root (by simp [zjM]); have a5 := ra a.state (by simp [zjM])
  have b1 := rb b.seq (by simp [zjM]); have b2 := rb b.prev (by simp [zjM]); have b3 := rb b.batch (by simp [zjM]); have b4 := rb b.root (by simp [zjM]); have b5 := rb b.state (by simp [zjM])
  obtain ⟨e1, h⟩ := zch (by omega) (by omega) h
  obtain ⟨e2, h⟩ := zch (by omega) (by omega) h
  obtain ⟨e3, h⟩ := zch (by omega) (by omega) h
  obtain ⟨e4, h⟩ := zch (by omega) (by omega) h
  have h' : zbG a.state.toNat ++ [] = zbG b.state.toNat ++ [] := by simpa using h
  obtain ⟨e5, _⟩ := zch (by omega) (by omega) h'
  obtain ⟨x1, x2, x3, x4, x5⟩ := a
  obtain ⟨y1, y2, y3, y4, y5⟩ := b
  simp only at *
  simp only [zbZ.mk.injEq]
  omega
open Go.Shelf Go.Proofs
def sortS_ren : Go.Shelf.Ren := ⟨fun | 6 => 115 | 8 => 126 | 9 => 125 | 19 => 137 | 20 => 138 | 21 => 128 | 22 => 129 | 23 => 130 | 24 => 131 | 25 => 132 | 26 => 133 | 27 => 134 | 28 => 135 | 29 => 136 | 36 => 139 | 31 => 140 | 32 => 141 | 37 => 142 | 38 => 143 | 39 => 144 | 41 => 145 | n => n, fun | 27 => 146 | 29 => 9 | 3 => 3 | 32 => 144 | 26 => 146 | 0 => 0 | 44 => 204 | 46 => 81 | 4 => 4 | 36 => 196 | 35 => 195 | 41 => 201 | 5 => 5 | 9 => 9 | 53 => 206 | 57 => 210 | 63 => 212 | 64 => 187 | n => n, fun | n => n⟩
theorem sortS : Go.Proofs.SlLaysM.n6 Tryz.prog sortS_ren := {
  mixed := by kernel_rfl
  f6 := ⟨Tryz.f115.name, by decide, Tryz.func115.trans (congrArg some (by kernel_rfl))⟩
  f8 := Tryz.func126.trans (congrArg some (by kernel_rfl))
  f9 := ⟨Tryz.f125.name, by decide, Tryz.func125.trans (congrArg some (by kernel_rfl))⟩
  f19 := Tryz.func137.trans (congrArg some (by kernel_rfl))
  f20 := Tryz.func138.trans (congrArg some (by kernel_rfl))
  f21 := ⟨Tryz.f128.name, by decide, Tryz.func128.trans (congrArg some (by kernel_rfl))⟩
  f22 := ⟨Tryz.f129.name, by decide, Tryz.func129.trans (congrArg some (by kernel_rfl))⟩
  f23 := ⟨Tryz.f130.name, by decide, Tryz.func130.trans (congrArg some (by kernel_rfl))⟩
  f24 := ⟨Tryz.f131.name, by decide, Tryz.func131.trans (congrArg some (by kernel_rfl))⟩
  f25 := ⟨Tryz.f132.name, by decide, Tryz.func132.trans (congrArg some (by kernel_rfl))⟩
  f26 := ⟨Tryz.f133.name, by decide, Tryz.func133.trans (congrArg some (by kernel_rfl))⟩
  f27 := ⟨Tryz.f134.name, by decide, Tryz.func134.trans (congrArg some (by kernel_rfl))⟩
  f28 := ⟨Tryz.f135.name, by decide, Tryz.func135.trans (congrArg some (by kernel_rfl))⟩
  f29 := ⟨Tryz.f136.name, by decide, Tryz.func136.trans (congrArg some (by kernel_rfl))⟩
  f31 := Tryz.func140.trans (congrArg some (by kernel_rfl))
  f32 := Tryz.func141.trans (congrArg some (by kernel_rfl))
  f36 := ⟨Tryz.f139.name, by decide, Tryz.func139.trans (congrArg some (by kernel_rfl))⟩
  f37 := ⟨Tryz.f142.name, by decide, Tryz.func142.trans (congrArg some (by kernel_rfl))⟩
  f38 := ⟨Tryz.f143.name, by decide, Tryz.func143.trans (congrArg some (by kernel_rfl))⟩
  f39 := ⟨Tryz.f144.name, by decide, Tryz.func144.trans (congrArg some (by kernel_rfl))⟩
  f41 := ⟨Tryz.f145.name, by decide, Tryz.func145.trans (congrArg some (by kernel_rfl))⟩
  t0 := Tryz.underlying0
  a0 := Tryz.isAgg0
  z0 := Tryz.sizeOf0
  v0 := Tryz.zeroValue0
  t3 := Tryz.underlying3
  a3 := Tryz.isAgg3
  z3 := Tryz.sizeOf3
  v3 := Tryz.zeroValue3
  t4 := Tryz.underlying4
  a4 := Tryz.isAgg4
  z4 := Tryz.sizeOf4
  v4 := Tryz.zeroValue4
  t5 := Tryz.underlying5
  a5 := Tryz.isAgg5
  z5 := Tryz.sizeOf5
  v5 := Tryz.zeroValue5
  t9 := Tryz.underlying9
  a9 := Tryz.isAgg9
  z9 := Tryz.sizeOf9
  v9 := Tryz.zeroValue9
  t26 := Tryz.underlying146
  a26 := Tryz.isAgg146
  z26 := Tryz.sizeOf146
  v26 := Tryz.zeroValue146
  t27 := Tryz.underlying146
  a27 := Tryz.isAgg146
  z27 := Tryz.sizeOf146
  v27 := Tryz.zeroValue146
  t29 := Tryz.underlying9
  a29 := Tryz.isAgg9
  z29 := Tryz.sizeOf9
  v29 := Tryz.zeroValue9
  t32 := Tryz.underlying144
  a32 := Tryz.isAgg144
  z32 := Tryz.sizeOf144
  v32 := Tryz.zeroValue144
  t35 := Tryz.underlying195
  a35 := Tryz.isAgg195
  z35 := Tryz.sizeOf195
  v35 := Tryz.zeroValue195
  t36 := Tryz.underlying196
  a36 := Tryz.isAgg196
  z36 := Tryz.sizeOf196
  v36 := Tryz.zeroValue196
  t41 := Tryz.underlying201
  a41 := Tryz.isAgg201
  z41 := Tryz.sizeOf201
  v41 := Tryz.zeroValue201
  t44 := Tryz.underlying204
  a44 := Tryz.isAgg204
  z44 := Tryz.sizeOf204
  v44 := Tryz.zeroValue204
  t46 := Tryz.underlying81
  a46 := Tryz.isAgg81
  z46 := Tryz.sizeOf81
  v46 := Tryz.zeroValue81
  t53 := Tryz.underlying206
  a53 := Tryz.isAgg206
  z53 := Tryz.sizeOf206
  v53 := Tryz.zeroValue206
  t57 := Tryz.underlying210
  a57 := Tryz.isAgg210
  z57 := Tryz.sizeOf210
  v57 := Tryz.zeroValue210
  t63 := Tryz.underlying212
  a63 := Tryz.isAgg212
  z63 := Tryz.sizeOf212
  v63 := Tryz.zeroValue212
  t64 := Tryz.underlying187
  a64 := Tryz.isAgg187
  z64 := Tryz.sizeOf187
  v64 := Tryz.zeroValue187 }
end Go.Proofs.YthpnelbciibjeaaGreat
