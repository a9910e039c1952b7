/- Messages: which may be. No program in sight. -/
import Derived.Test.YtpgahkdjkanblaaGreatSpTab
import Derived.Test.YtpgahkdjkanblaaGreatCk2
import Derived.Test.YtpgahkdjkanblaaGreatRc2
set_option linter.all false
set_option linter.unusedSimpArgs false
set_option linter.unusedVariables false
namespace Go.AW

structure zgs where
  kind : Int
  src : Int
  view : Int
  seq : Int
  dig : Int
  client : Int
  time : Int
  rerr : Int
  roff : Int
  batch : List zu
  cert : zek
  changes : List zaa
  entries : List ziN
  state : List UInt8
  topic : List UInt8
  offset : Int
  proof : zlz
  key : Int
  sdig : Int
def zCert : zek := ⟨0, 0, []⟩
def zqm : zlz := ⟨[], 0, [], [], 0, 0, [], zCert⟩
def zlR : zgs := ⟨0, 0, 0, 0, 0, 0, 0, 0, 0, [], zCert, [], [], [], [], 0, zqm, 0, 0⟩
abbrev msgL (m : zgs) : List AV :=
  [.d (.int .i64 m.kind), .d (.int .i64 m.src), .d (.int .i64 m.view), .d (.int .i64 m.seq), .d (.int .i64 m.dig), .d (.int .i64 m.client), .d (.int .i64 m.time), .d (.int .i64 m.rerr), .d (.int .i64 m.roff), .d (.slice (zbo m.batch)),
    .d (.int .i64 m.cert.seq), .d (.int .i64 m.cert.dig), .d (.slice (zas m.cert.signs)), .d (.slice (zaP m.changes)), .d (.slice (zfV m.entries)), .d (.slice (bcs m.state)), .d (.str m.topic), .d (.int .i64 m.offset),
    .d (.str m.proof.topic), .d (.int .i64 m.proof.offset), .d (.slice (bcs m.proof.rec_)), .d (.slice (hdrsE m.proof.headers)), .d (.int .i64 m.proof.index), .d (.int .i64 m.proof.count), .d (.slice (zop m.proof.path)), .d (.int .i64 m.proof.cert.seq), .d (.int .i64 m.proof.cert.dig), .d (.slice (zas m.proof.cert.signs)), .d (.int .i64 m.key), .d (.int .i64 m.sdig)]
abbrev zqx (m : zgs) : AV := .agg (msgL m)
abbrev msgO (m : zgs) : zf := .box (msgL m)
def brkE (n : Int) : Int := inE n 0 12
def zcY (p : zbW) : List Int := zjX p.view :: zrC p.seq :: zrC p.dig :: zL p.fkey p.fdig :: (zbX p.signs ++ [zy p.batch])
def zdp (c : zaa) : List Int := zrC c.view :: brkE c.src :: (zck c.cert ++ (inE c.above.length 0 8 :: (c.above.map zcY).flatten))
def zbT (c : zaa) : List Int := zdp c ++ [zL c.key c.dig]
def entryErr (x : ziN) : List Int := [zjX x.view, zrC x.seq, zy x.batch, zL x.key x.dig]
def voteErr (m : zgs) : List Int := [brkE m.src, zjX m.view, zrC m.seq, zrC m.dig]
def newvErr (m : zgs) : List Int := brkE m.src :: zrC m.view :: inE m.changes.length 0 13 :: ((m.changes.map zbT).flatten ++ (inE m.entries.length 0 8 :: (m.entries.map entryErr).flatten))
def ownK (k : Int) : Bool := decide (2 ≤ k ∧ k ≤ 9 ∧ k ≠ 7)
def zrL (m : zgs) : List Int :=
  if m.kind = 1 then [inE m.batch.length 1 1, zy m.batch]
  else if m.kind = 2 then voteErr m ++ [zy m.batch]
  else if m.kind = 3 ∨ m.kind = 4 then voteErr m
  else if m.kind = 5 then [brkE m.src, zjX m.view, inE m.client 0 7, zjX m.time, inE m.rerr 0 65536, zjX m.roff]
  else if m.kind = 6 then [brkE m.src, zrC m.seq, zrC m.dig]
  else if m.kind = 7 then inE m.changes.length 1 1 :: (m.changes.map fun c => zbT c ++ [if c.src ≠ m.src ∨ c.view ≠ m.view then 100 else 0]).flatten
  else if m.kind = 8 then newvErr m
  else if m.kind = 9 then [brkE m.src, zjX m.seq]
  else if m.kind = 10 then brkE m.src :: (zck m.cert ++ [inE m.state.length 0 262144])
  else if m.kind = 11 then [inE m.client 0 7, nameE m.topic, zjX m.offset]
  else if m.kind = 12 then brkE m.src :: proofErr m.proof
  else [100]
def zkb (m : zgs) : List Int := zrL m ++ (if ownK m.kind = true then [zL m.key m.sdig] else [])
def zrI (m : zgs) : zgs :=
  if m.kind = 1 then { zlR with kind := m.kind, batch := m.batch }
  else if m.kind = 2 then { zlR with kind := m.kind, src := m.src, view := m.view, seq := m.seq, dig := m.dig, batch := m.batch, key := m.key, sdig := m.sdig }
  else if m.kind = 3 ∨ m.kind = 4 then { zlR with kind := m.kind, src := m.src, view := m.view, seq := m.seq, dig := m.dig, key := m.key, sdig := m.sdig }
  else if m.kind = 5 then { zlR with kind := m.kind, src := m.src, view := m.view, client := m.client, time := m.time, rerr := m.rerr, roff := m.roff, key := m.key, sdig := m.sdig }
  else if m.kind = 6 then { zlR with kind := m.kind, src := m.src, seq := m.seq, dig := m.dig, key := m.key, sdig := m.sdig }
  else if m.kind = 7 then { zlR with kind := m.kind, src := m.src, view := m.view, changes := m.changes }
  else if m.kind = 8 then { zlR with kind := m.kind, src := m.src, view := m.view, changes := m.changes, entries := m.entries, key := m.key, sdig := m.sdig }
  else if m.kind = 9 then { zlR with kind := m.kind, src := m.src, seq := m.seq, key := m.key, sdig := m.sdig }
  else if m.kind = 10 then { zlR with kind := m.kind, src := m.src, cert := m.cert, state := m.state }
  else if m.kind = 11 then { zlR with kind := m.kind, client := m.client, topic := m.topic, offset := m.offset }
  else if m.kind = 12 then { zlR with kind := m.kind, src := m.src, proof := m.proof }
  else { zlR with kind := m.kind, src := m.src }
deriving instance DecidableEq for zlz
deriving instance DecidableEq for zgs
def zbU (m : zgs) : Int := if zbj (zkb m) ≠ 0 then zbj (zkb m) else if m = zrI m then 0 else 100
end Go.AW

/- Contracts: what is asked of votes, prepared certificates, view-changes and new views. -/
set_option maxRecDepth 100000
set_option linter.unusedSimpArgs false
set_option linter.unusedVariables false
namespace Go.Proofs.YtpgahkdjkanblaaGreat
open Go.AW

structure zoF (σ : List zf) (id : Nat) (B : zf) (P : List Int) (S : List zf) : Prop where
  a : S[id]? = some (zhb (zbj P))
  b : S[σ.length]? = some B
  pre : ∃ τ, S = σ.set id (zhb (zbj P)) ++ τ
section

variable {σ S : List zf} {id : Nat} {B : zf} {P P' : List Int}

theorem zoF.first (hσ : σ[id]? = some (zhb (zbj P))) (B : zf) : zoF σ id B P (σ ++ [B]) := ⟨zx hσ, by rw [zt]; rfl, [B], by rw [zeI hσ]⟩
theorem zoF.set (h : zoF σ id B P S) (hid : id < σ.length) (P' : List Int) : zoF σ id B P' (S.set id (zhb (zbj P'))) := by
  obtain ⟨h1, h2, τ, h3⟩ := h
  refine ⟨List.getElem?_set_self (zdB h1), (List.getElem?_set_ne (by omega)).trans h2, τ, ?_⟩
  rw [h3, List.set_append_left _ _ (by simpa using hid), List.set_set]
theorem zoF.app (h : zoF σ id B P S) (τ : List zf) : zoF σ id B P (S ++ τ) := by
  obtain ⟨h1, h2, τ', h3⟩ := h
  exact ⟨zx h1, zx h2, τ' ++ τ, by rw [h3, List.append_assoc]⟩
theorem zoF.done (h : zoF σ id B P S) {K : KT} (hl : zkE σ.length σ) (hK : K (.tup []) (σ.set id (zhb (zbj P)))) : AW.Ends σ.length K (some []) S := by
  obtain ⟨_, _, τ, rfl⟩ := h
  exact zfz (by simp [zdF, dmT, zcV]) hl (zig _ _) hK
theorem zoF.as (h : zoF σ id B P S) (e : P = P') : zoF σ id B P' S := e ▸ h
end

section

variable {σ : List zf} {id : Nat} {P : List Int} {K : KT}

theorem c_aBroker {n : Int} (hσ : σ[id]? = some (zhb (zbj P))) (hK : K (.tup []) (σ.set id (zhb (zbj (P ++ [brkE n]))))) : zm Tryz.prog zaH [.box id 0, .d (.int .i64 n)] σ K := by
  refine zc zgr.is rfl fun hl _ => zgr.goes ?_
  simp only [zgB, iN, bT, bF, eN]
  refine zao ?_
  refine c_aIn hσ ?_
  exact zft (by simp [zdF, dmT, zcV]) hl (zig _ _) hK
end
/-! the same, while something else is known of what lies there -/
section

variable {σ S : List zf} {id : Nat} {B : zf} {P : List Int} {K : KT} (j : zoF σ id B P S) (hid : id < σ.length)
include j hid
theorem j_says {x : Int} (hK : ∀ S, zoF σ id B (P ++ [x]) S → K (.tup []) S) : zm Tryz.prog zT [.box id 0, .d (.int .i64 x)] S K := c_aSays j.a (hK _ (j.set hid _))
theorem j_in {n lo hi : Int} (hK : ∀ S, zoF σ id B (P ++ [inE n lo hi]) S → K (.tup []) S) : zm Tryz.prog zaz [.box id 0, .d (.int .i64 n), .d (.int .i64 lo), .d (.int .i64 hi)] S K := c_aIn j.a (hK _ (j.set hid _))
theorem j_num {n : Int} (hK : ∀ S, zoF σ id B (P ++ [zjX n]) S → K (.tup []) S) : zm Tryz.prog zaA [.box id 0, .d (.int .i64 n)] S K := c_aNum j.a (hK _ (j.set hid _))
theorem j_pos {n : Int} (hK : ∀ S, zoF σ id B (P ++ [zrC n]) S → K (.tup []) S) : zm Tryz.prog zbf [.box id 0, .d (.int .i64 n)] S K := c_aPos j.a (hK _ (j.set hid _))
theorem j_many {n hi : Int} (hK : ∀ S, zoF σ id B (P ++ [inE n 0 hi]) S → K (.tup []) S) : zm Tryz.prog zbH [.box id 0, .d (.int .i64 n), .d (.int .i64 hi)] S K := c_aMany j.a (hK _ (j.set hid _))
theorem j_broker {n : Int} (hK : ∀ S, zoF σ id B (P ++ [brkE n]) S → K (.tup []) S) : zm Tryz.prog zaH [.box id 0, .d (.int .i64 n)] S K := c_aBroker j.a (hK _ (j.set hid _))
theorem j_signs {l : List zP} (hl0 : l.length ≤ 1073741824) (hK : ∀ S, zoF σ id B (P ++ zbX l) S → K (.tup []) S) : zm Tryz.prog zaO [.box id 0, .d (.slice (zas l))] S K := c_aSigns j.a hl0 (hK _ (j.set hid _))
theorem j_cert {c : zek} (hl0 : c.signs.length ≤ 1073741824) (hK : ∀ S, zoF σ id B (P ++ zck c) S → K (.tup []) S) : zm Tryz.prog zcb [.box id 0, zgQ c] S K := c_aCert j.a hl0 (hK _ (j.set hid _))
end

abbrev prepL (p : zbW) : List AV := [.d (.int .i64 p.view), .d (.int .i64 p.seq), .d (.int .i64 p.dig), .d (.int .i64 p.fkey), .d (.int .i64 p.fdig), .d (.slice (zas p.signs)), .d (.slice (zbo p.batch))]
abbrev zbV (c : zaa) : List AV := [.d (.int .i64 c.view), .d (.int .i64 c.src), .d (.int .i64 c.cert.seq), .d (.int .i64 c.cert.dig), .d (.slice (zas c.cert.signs)), .d (.slice (zfI c.above)), .d (.int .i64 c.key), .d (.int .i64 c.dig)]
theorem c_aPrep {σ : List zf} {id : Nat} {P : List Int} {p : zbW} (hσ : σ[id]? = some (zhb (zbj P))) (hs : p.signs.length ≤ 1073741824) (hb : okB p.batch) {K : KT} (hK : K (.tup []) (σ.set id (zhb (zbj (P ++ zcY p))))) :
    zm Tryz.prog zdz [.box id 0, .agg (prepL p)] σ K := by
  refine zc zfA.is rfl fun hl _ => zfA.goes ?_
  have hid := zdB hσ
  simp only [zfC, iN, bT, bF, eN]
  have j := zoF.first hσ (.box (prepL p))
  refine zao ?_
  refine j_num j hid fun S j => ?_
  have b := j.b
  refine zH b ?_
  refine j_pos j hid fun S j => ?_
  have b := j.b
  refine zH b ?_
  refine j_pos j hid fun S j => ?_
  have b := j.b
  refine zH b ?_
  refine zeO ?_
  refine zH b ?_
  refine j_says j hid fun S j => ?_
  have b := j.b
  refine zH b ?_
  refine j_signs j hid hs fun S j => ?_
  have b := j.b
  refine zH b ?_
  refine zjy hb ?_
  refine zao ?_
  refine j_says j hid fun S j => ?_
  refine zao ?_
  exact (j.as (by simp [zcY])).done hl hK
structure okCh (c : zaa) : Prop where
  signs : c.cert.signs.length ≤ 1073741824
  above : c.above.length ≤ 1073741824
  each : ∀ p ∈ c.above, p.signs.length ≤ 1073741824 ∧ okB p.batch
theorem zhi {α β : Type} {f : α → List β} {l : List α} {k : Nat} {x : α} (h : l[k]? = some x) : ((l.take (k + 1)).map f).flatten = ((l.take k).map f).flatten ++ f x := by
  rw [zoU h]; simp
theorem c_aChange {σ : List zf} {id : Nat} {P : List Int} {c : zaa} (hσ : σ[id]? = some (zhb (zbj P))) (hc : okCh c) {K : KT} (hK : K (.tup []) (σ.set id (zhb (zbj (P ++ zbT c))))) :
    zm Tryz.prog zej [.box id 0, .agg (zbV c)] σ K := by
  refine zc zgq.is rfl fun hl _ => zgq.goes ?_
  have hid := zdB hσ
  have hpl : (zfI c.above).length = c.above.length := List.length_map ..
  have hal := hc.above
  simp only [zgA, iN, bT, bF, eN]
  have j := zoF.first hσ (.box (zbV c))
  refine zao ?_
  refine j_pos j hid fun S j => ?_
  have b := j.b
  refine zH b ?_
  refine j_broker j hid fun S j => ?_
  have b := j.b
  refine zH b ?_
  refine j_cert (c := c.cert) j hid hc.signs fun S j => ?_
  have b := j.b
  refine zH (zi b hpl) ?_
  refine j_many j hid fun S j => ?_
  have b := j.b
  obtain ⟨Q, hQ⟩ : ∃ Q, P ++ [zrC c.view] ++ [brkE c.src] ++ zck c.cert ++ [inE c.above.length 0 8] = Q := ⟨_, rfl⟩
  rw [hQ] at j
  refine zH (zi b hpl) ?_
  refine zl c.above.length (fun k vs S => vs = [.d (.int .i64 k)] ∧ zoF σ id (.box (zbV c)) (Q ++ ((c.above.take k).map zcY).flatten) S) ⟨rfl, by simpa using j⟩ ?_
  rintro k vs S hk ⟨rfl, j⟩
  by_cases hlt : k < c.above.length
  · have hd : decide ((k : Int) < (c.above.length : Int)) = true := by simp; omega
    have hx : c.above[k]? = some c.above[k] := by simp [hlt]
    have hpx := hc.each _ (List.getElem_mem hlt)
    have hgx := zQ (f := zeV) hx
    obtain ⟨p, hp⟩ : ∃ p, c.above[k] = p := ⟨_, rfl⟩
    rw [hp] at hx hgx hpx
    refine zjk (zi hd (zi hgx hpl)) ?_
    refine c_aPrep (p := p) (zx j.a) hpx.1 hpx.2 ?_
    have j2 := (j.app [.box (prepL p)]).set hid (Q ++ ((c.above.take k).map zcY).flatten ++ zcY p)
    refine zH (wkc k (by omega)) ?_
    refine zaG.next hlt ⟨rfl, ?_⟩
    rw [zhi hx, ← List.append_assoc]
    exact j2
  · have hd : decide ((k : Int) < (c.above.length : Int)) = false := by simp; omega
    rw [show c.above.take k = c.above from List.take_of_length_le (by omega)] at j
    have b := j.b
    refine zH (zi hd (zi hpl b)) ?_
    refine zeO ?_
    refine zao ?_
    refine j_says j hid fun S j => ?_
    refine zao ?_
    exact (j.as (by rw [← hQ]; simp [zbT, zdp])).done hl hK
end Go.Proofs.YtpgahkdjkanblaaGreat
