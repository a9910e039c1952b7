/- Messages: which may be. No program in sight. -/
import Derived.Test.YtpgahkdjkanblaaGreatSpTab
import Derived.Test.YtpgahkdjkanblaaGreatCk2
set_option linter.all false
set_option linter.unusedSimpArgs false
set_option linter.unusedVariables false
namespace Go.AW

structure zes where
  kind : Int
  src : Int
  view : Int
  seq : Int
  dig : Int
  client : Int
  time : Int
  rerr : Int
  roff : Int
  batch : List zu
  cert : zfB
  changes : List zO
  entries : List zaI
  state : List UInt8
  topic : List UInt8
  offset : Int
  proof : zoh
  key : Int
  sdig : Int
def zCert : zfB := ⟨0, 0, []⟩
def zqi : zoh := ⟨[], 0, [], [], 0, 0, [], zCert⟩
def zfl : zes := ⟨0, 0, 0, 0, 0, 0, 0, 0, 0, [], zCert, [], [], [], [], 0, zqi, 0, 0⟩
abbrev msgL (m : zes) : List AV :=
  [.d (.int .i64 m.kind), .d (.int .i64 m.src), .d (.int .i64 m.view), .d (.int .i64 m.seq), .d (.int .i64 m.dig), .d (.int .i64 m.client), .d (.int .i64 m.time), .d (.int .i64 m.rerr), .d (.int .i64 m.roff), .d (.slice (zbD m.batch)),
    .d (.int .i64 m.cert.seq), .d (.int .i64 m.cert.dig), .d (.slice (zab m.cert.signs)), .d (.slice (zaL m.changes)), .d (.slice (zah m.entries)), .d (.slice (bcs m.state)), .d (.str m.topic), .d (.int .i64 m.offset),
    .d (.str m.proof.topic), .d (.int .i64 m.proof.offset), .d (.slice (bcs m.proof.rec_)), .d (.slice (hdrsE m.proof.headers)), .d (.int .i64 m.proof.index), .d (.int .i64 m.proof.count), .d (.slice (zse m.proof.path)), .d (.int .i64 m.proof.cert.seq), .d (.int .i64 m.proof.cert.dig), .d (.slice (zab m.proof.cert.signs)), .d (.int .i64 m.key), .d (.int .i64 m.sdig)]
abbrev zlf (m : zes) : AV := .agg (msgL m)
abbrev msgO (m : zes) : zd := .box (msgL m)
def brkE (n : Int) : Int := inE n 0 12
def zfR (p : zca) : List Int := zpU p.view :: posE p.seq :: posE p.dig :: zag p.fkey p.fdig :: (zfs p.signs ++ [zD p.batch])
def zil (c : zO) : List Int := posE c.view :: brkE c.src :: (zfq c.cert ++ (inE c.above.length 0 8 :: (c.above.map zfR).flatten))
def zbN (c : zO) : List Int := zil c ++ [zag c.key c.dig]
def zhz (x : zaI) : List Int := [zpU x.view, posE x.seq, zD x.batch, zag x.key x.dig]
def voteErr (m : zes) : List Int := [brkE m.src, zpU m.view, posE m.seq, posE m.dig]
def zfm (m : zes) : List Int := brkE m.src :: posE m.view :: inE m.changes.length 0 13 :: ((m.changes.map zbN).flatten ++ (inE m.entries.length 0 8 :: (m.entries.map zhz).flatten))
def ownK (k : Int) : Bool := decide (2 ≤ k ∧ k ≤ 9 ∧ k ≠ 7)
def zny (m : zes) : List Int :=
  if m.kind = 1 then [inE m.batch.length 1 1, zD m.batch]
  else if m.kind = 2 then voteErr m ++ [zD m.batch]
  else if m.kind = 3 ∨ m.kind = 4 then voteErr m
  else if m.kind = 5 then [brkE m.src, zpU m.view, inE m.client 0 7, zpU m.time, inE m.rerr 0 65536, zpU m.roff]
  else if m.kind = 6 then [brkE m.src, posE m.seq, posE m.dig]
  else if m.kind = 7 then inE m.changes.length 1 1 :: (m.changes.map fun c => zbN c ++ [if c.src ≠ m.src ∨ c.view ≠ m.view then 100 else 0]).flatten
  else if m.kind = 8 then zfm m
  else if m.kind = 9 then [brkE m.src, zpU m.seq]
  else if m.kind = 10 then brkE m.src :: (zfq m.cert ++ [inE m.state.length 0 262144])
  else if m.kind = 11 then [inE m.client 0 7, nameE m.topic, zpU m.offset]
  else if m.kind = 12 then brkE m.src :: proofErr m.proof
  else [100]
def zjP (m : zes) : List Int := zny m ++ (if ownK m.kind = true then [zag m.key m.sdig] else [])
def zoK (m : zes) : zes :=
  if m.kind = 1 then { zfl with kind := m.kind, batch := m.batch }
  else if m.kind = 2 then { zfl with kind := m.kind, src := m.src, view := m.view, seq := m.seq, dig := m.dig, batch := m.batch, key := m.key, sdig := m.sdig }
  else if m.kind = 3 ∨ m.kind = 4 then { zfl with kind := m.kind, src := m.src, view := m.view, seq := m.seq, dig := m.dig, key := m.key, sdig := m.sdig }
  else if m.kind = 5 then { zfl with kind := m.kind, src := m.src, view := m.view, client := m.client, time := m.time, rerr := m.rerr, roff := m.roff, key := m.key, sdig := m.sdig }
  else if m.kind = 6 then { zfl with kind := m.kind, src := m.src, seq := m.seq, dig := m.dig, key := m.key, sdig := m.sdig }
  else if m.kind = 7 then { zfl with kind := m.kind, src := m.src, view := m.view, changes := m.changes }
  else if m.kind = 8 then { zfl with kind := m.kind, src := m.src, view := m.view, changes := m.changes, entries := m.entries, key := m.key, sdig := m.sdig }
  else if m.kind = 9 then { zfl with kind := m.kind, src := m.src, seq := m.seq, key := m.key, sdig := m.sdig }
  else if m.kind = 10 then { zfl with kind := m.kind, src := m.src, cert := m.cert, state := m.state }
  else if m.kind = 11 then { zfl with kind := m.kind, client := m.client, topic := m.topic, offset := m.offset }
  else if m.kind = 12 then { zfl with kind := m.kind, src := m.src, proof := m.proof }
  else { zfl with kind := m.kind, src := m.src }
deriving instance DecidableEq for zoh
deriving instance DecidableEq for zes
def zbO (m : zes) : Int := if zec (zjP m) ≠ 0 then zec (zjP m) else if m = zoK m then 0 else 100
end Go.AW

/- Contracts: what is asked of votes, prepared certificates, view-changes and new views. -/
set_option maxRecDepth 100000
set_option linter.unusedSimpArgs false
set_option linter.unusedVariables false
namespace Go.Proofs.YtpgahkdjkanblaaGreat
open Go.AW

structure zms (σ : List zd) (id : Nat) (B : zd) (P : List Int) (S : List zd) : Prop where
  a : S[id]? = some (zgi (zec P))
  b : S[σ.length]? = some B
  pre : ∃ τ, S = σ.set id (zgi (zec P)) ++ τ
section

variable {σ S : List zd} {id : Nat} {B : zd} {P P' : List Int}

theorem zms.first (hσ : σ[id]? = some (zgi (zec P))) (B : zd) : zms σ id B P (σ ++ [B]) := ⟨zM hσ, by rw [zo]; rfl, [B], by rw [zeu hσ]⟩
theorem zms.set (h : zms σ id B P S) (hid : id < σ.length) (P' : List Int) : zms σ id B P' (S.set id (zgi (zec P'))) := by
  obtain ⟨h1, h2, τ, h3⟩ := h
  refine ⟨List.getElem?_set_self (zcx h1), (List.getElem?_set_ne (by omega)).trans h2, τ, ?_⟩
  rw [h3, List.set_append_left _ _ (by simpa using hid), List.set_set]
theorem zms.app (h : zms σ id B P S) (τ : List zd) : zms σ id B P (S ++ τ) := by
  obtain ⟨h1, h2, τ', h3⟩ := h
  exact ⟨zM h1, zM h2, τ' ++ τ, by rw [h3, List.append_assoc]⟩
theorem zms.done (h : zms σ id B P S) {K : KT} (hl : zin σ.length σ) (hK : K (.tup []) (σ.set id (zgi (zec P)))) : AW.Ends σ.length K (some []) S := by
  obtain ⟨_, _, τ, rfl⟩ := h
  exact zgd (by simp [zdy, dmT, zbL]) hl (ziJ _ _) hK
theorem zms.as (h : zms σ id B P S) (e : P = P') : zms σ id B P' S := e ▸ h
end

section

variable {σ : List zd} {id : Nat} {P : List Int} {K : KT}

theorem c_aBroker {n : Int} (hσ : σ[id]? = some (zgi (zec P))) (hK : K (.tup []) (σ.set id (zgi (zec (P ++ [brkE n]))))) : zl Tryz.prog zaD [.box id 0, .d (.int .i64 n)] σ K := by
  refine ze zgX.is rfl fun hl _ => zgX.goes ?_
  simp only [zhh, iN, bT, bF, eN]
  refine zaF ?_
  refine c_aIn hσ ?_
  exact zfW (by simp [zdy, dmT, zbL]) hl (ziJ _ _) hK
end
/-! the same, while something else is known of what lies there -/
section

variable {σ S : List zd} {id : Nat} {B : zd} {P : List Int} {K : KT} (j : zms σ id B P S) (hid : id < σ.length)
include j hid
theorem ztF {x : Int} (hK : ∀ S, zms σ id B (P ++ [x]) S → K (.tup []) S) : zl Tryz.prog zN [.box id 0, .d (.int .i64 x)] S K := c_aSays j.a (hK _ (j.set hid _))
theorem j_in {n lo hi : Int} (hK : ∀ S, zms σ id B (P ++ [inE n lo hi]) S → K (.tup []) S) : zl Tryz.prog zaC [.box id 0, .d (.int .i64 n), .d (.int .i64 lo), .d (.int .i64 hi)] S K := c_aIn j.a (hK _ (j.set hid _))
theorem j_num {n : Int} (hK : ∀ S, zms σ id B (P ++ [zpU n]) S → K (.tup []) S) : zl Tryz.prog zaq [.box id 0, .d (.int .i64 n)] S K := c_aNum j.a (hK _ (j.set hid _))
theorem j_pos {n : Int} (hK : ∀ S, zms σ id B (P ++ [posE n]) S → K (.tup []) S) : zl Tryz.prog zaE [.box id 0, .d (.int .i64 n)] S K := c_aPos j.a (hK _ (j.set hid _))
theorem j_many {n hi : Int} (hK : ∀ S, zms σ id B (P ++ [inE n 0 hi]) S → K (.tup []) S) : zl Tryz.prog zbe [.box id 0, .d (.int .i64 n), .d (.int .i64 hi)] S K := c_aMany j.a (hK _ (j.set hid _))
theorem j_broker {n : Int} (hK : ∀ S, zms σ id B (P ++ [brkE n]) S → K (.tup []) S) : zl Tryz.prog zaD [.box id 0, .d (.int .i64 n)] S K := c_aBroker j.a (hK _ (j.set hid _))
theorem j_signs {l : List zt} (hl0 : l.length ≤ 1073741824) (hK : ∀ S, zms σ id B (P ++ zfs l) S → K (.tup []) S) : zl Tryz.prog zaS [.box id 0, .d (.slice (zab l))] S K := c_aSigns j.a hl0 (hK _ (j.set hid _))
theorem j_cert {c : zfB} (hl0 : c.signs.length ≤ 1073741824) (hK : ∀ S, zms σ id B (P ++ zfq c) S → K (.tup []) S) : zl Tryz.prog zck [.box id 0, zfX c] S K := c_aCert j.a hl0 (hK _ (j.set hid _))
end

abbrev prepL (p : zca) : List AV := [.d (.int .i64 p.view), .d (.int .i64 p.seq), .d (.int .i64 p.dig), .d (.int .i64 p.fkey), .d (.int .i64 p.fdig), .d (.slice (zab p.signs)), .d (.slice (zbD p.batch))]
abbrev zek (c : zO) : List AV := [.d (.int .i64 c.view), .d (.int .i64 c.src), .d (.int .i64 c.cert.seq), .d (.int .i64 c.cert.dig), .d (.slice (zab c.cert.signs)), .d (.slice (zfG c.above)), .d (.int .i64 c.key), .d (.int .i64 c.dig)]
theorem c_aPrep {σ : List zd} {id : Nat} {P : List Int} {p : zca} (hσ : σ[id]? = some (zgi (zec P))) (hs : p.signs.length ≤ 1073741824) (hb : okB p.batch) {K : KT} (hK : K (.tup []) (σ.set id (zgi (zec (P ++ zfR p))))) :
    zl Tryz.prog zeg [.box id 0, .agg (prepL p)] σ K := by
  refine ze zge.is rfl fun hl _ => zge.goes ?_
  have hid := zcx hσ
  simp only [zgg, iN, bT, bF, eN]
  have j := zms.first hσ (.box (prepL p))
  refine zaF ?_
  refine j_num j hid fun S j => ?_
  have b := j.b
  refine zay b ?_
  refine j_pos j hid fun S j => ?_
  have b := j.b
  refine zay b ?_
  refine j_pos j hid fun S j => ?_
  have b := j.b
  refine zay b ?_
  refine zdO ?_
  refine zay b ?_
  refine ztF j hid fun S j => ?_
  have b := j.b
  refine zay b ?_
  refine j_signs j hid hs fun S j => ?_
  have b := j.b
  refine zay b ?_
  refine zfr hb ?_
  refine zaF ?_
  refine ztF j hid fun S j => ?_
  refine zaF ?_
  exact (j.as (by simp [zfR])).done hl hK
structure okCh (c : zO) : Prop where
  signs : c.cert.signs.length ≤ 1073741824
  above : c.above.length ≤ 1073741824
  each : ∀ p ∈ c.above, p.signs.length ≤ 1073741824 ∧ okB p.batch
theorem zfI {α β : Type} {f : α → List β} {l : List α} {k : Nat} {x : α} (h : l[k]? = some x) : ((l.take (k + 1)).map f).flatten = ((l.take k).map f).flatten ++ f x := by
  rw [zph h]; simp
theorem c_aChange {σ : List zd} {id : Nat} {P : List Int} {c : zO} (hσ : σ[id]? = some (zgi (zec P))) (hc : okCh c) {K : KT} (hK : K (.tup []) (σ.set id (zgi (zec (P ++ zbN c))))) :
    zl Tryz.prog zdx [.box id 0, .agg (zek c)] σ K := by
  refine ze zgW.is rfl fun hl _ => zgW.goes ?_
  have hid := zcx hσ
  have hpl : (zfG c.above).length = c.above.length := List.length_map ..
  have hal := hc.above
  simp only [zhg, iN, bT, bF, eN]
  have j := zms.first hσ (.box (zek c))
  refine zaF ?_
  refine j_pos j hid fun S j => ?_
  have b := j.b
  refine zay b ?_
  refine j_broker j hid fun S j => ?_
  have b := j.b
  refine zay b ?_
  refine j_cert (c := c.cert) j hid hc.signs fun S j => ?_
  have b := j.b
  refine zay (zq b hpl) ?_
  refine j_many j hid fun S j => ?_
  have b := j.b
  obtain ⟨Q, hQ⟩ : ∃ Q, P ++ [posE c.view] ++ [brkE c.src] ++ zfq c.cert ++ [inE c.above.length 0 8] = Q := ⟨_, rfl⟩
  rw [hQ] at j
  refine zay (zq b hpl) ?_
  refine zy c.above.length (fun k vs S => vs = [.d (.int .i64 k)] ∧ zms σ id (.box (zek c)) (Q ++ ((c.above.take k).map zfR).flatten) S) ⟨rfl, by simpa using j⟩ ?_
  rintro k vs S hk ⟨rfl, j⟩
  by_cases hlt : k < c.above.length
  · have hd : decide ((k : Int) < (c.above.length : Int)) = true := by simp; omega
    have hx : c.above[k]? = some c.above[k] := by simp [hlt]
    have hpx := hc.each _ (List.getElem_mem hlt)
    have hgx := zal (f := zgI) hx
    obtain ⟨p, hp⟩ : ∃ p, c.above[k] = p := ⟨_, rfl⟩
    rw [hp] at hx hgx hpx
    refine znN (zq hd (zq hgx hpl)) ?_
    refine c_aPrep (p := p) (zM j.a) hpx.1 hpx.2 ?_
    have j2 := (j.app [.box (prepL p)]).set hid (Q ++ ((c.above.take k).map zfR).flatten ++ zfR p)
    refine zay (wkc k (by omega)) ?_
    refine zbp.next hlt ⟨rfl, ?_⟩
    rw [zfI hx, ← List.append_assoc]
    exact j2
  · have hd : decide ((k : Int) < (c.above.length : Int)) = false := by simp; omega
    rw [show c.above.take k = c.above from List.take_of_length_le (by omega)] at j
    have b := j.b
    refine zay (zq hd (zq hpl b)) ?_
    refine zdO ?_
    refine zaF ?_
    refine ztF j hid fun S j => ?_
    refine zaF ?_
    exact (j.as (by rw [← hQ]; simp [zbN, zil])).done hl hK
end Go.Proofs.YtpgahkdjkanblaaGreat
