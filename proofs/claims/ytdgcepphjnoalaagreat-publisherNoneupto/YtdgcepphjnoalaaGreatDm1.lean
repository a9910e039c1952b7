/- Messages out of their data (chapter 24). No program in sight. -/
import Derived.Test.YtdgcepphjnoalaaGreatCk4
import Derived.Test.YtdgcepphjnoalaaGreatBg0
import Derived.Test.YtdgcepphjnoalaaGreatSpDec
import Derived.Test.YtdgcepphjnoalaaGreatSpBulk
import Derived.Test.YtdgcepphjnoalaaGreatCk1
set_option linter.all false
set_option maxRecDepth 100000
set_option linter.unusedSimpArgs false
set_option linter.unusedVariables false
namespace Go.Proofs.YtdgcepphjnoalaaGreat
open Go.AW

def tyHdr : List Ty := [.int .i64, .int .i64, .int .i64, .int .i64, .int .i64]
def tyCert : List Ty := [.int .i64, .int .i64, .slice znO]
def tyProof : List Ty := [.str, .int .i64, .slice [.int .u8], .slice tyHdr, .int .i64, .int .i64, .slice [.int .i64], .int .i64, .int .i64, .slice znO]
theorem dec_hdr {ds : List D} (h : zbO tyHdr ds) : ∃ x : zpc, ds = hdrD x ∧ zkj x.seq := by
  obtain ⟨d1, ds, rfl, h1, h⟩ := zh h
  obtain ⟨d2, ds, rfl, h2, h⟩ := zh h
  obtain ⟨d3, ds, rfl, h3, h⟩ := zh h
  obtain ⟨d4, ds, rfl, h4, h⟩ := zh h
  obtain ⟨d5, ds, rfl, h5, h⟩ := zh h
  obtain rfl := zcW h
  obtain ⟨a1, rfl, k1⟩ := zah h1
  obtain ⟨a2, rfl, _⟩ := zah h2
  obtain ⟨a3, rfl, _⟩ := zah h3
  obtain ⟨a4, rfl, _⟩ := zah h4
  obtain ⟨a5, rfl, _⟩ := zah h5
  exact ⟨⟨a1, a2, a3, a4, a5⟩, rfl, k1⟩
theorem dec_int1 {ds : List D} (h : zbO [.int .i64] ds) : ∃ x : Int, ds = [.int .i64 x] ∧ zkj x := by
  obtain ⟨d1, ds, rfl, h1, h⟩ := zh h
  obtain rfl := zcW h
  obtain ⟨a1, rfl, k1⟩ := zah h1
  exact ⟨a1, rfl, k1⟩
theorem dec_signs {d : D} (h : zhS (.slice znO) d) : ∃ l : List zS, d = .slice (zbQ l) := by
  obtain ⟨l, rfl⟩ := zdL (f := ziU) h (fun e he => (znH he).imp fun _ h => h.1)
  exact ⟨l, rfl⟩
theorem signs_bulk (l : List zS) : l.length ≤ zdd (zbQ l) := zdr (f := ziU) (fun a => by simp only [ziU, zcx, zeQ]; omega) l
theorem dec_cert {ds : List D} (h : zbO tyCert ds) (hb : zcx ds ≤ 1048576) : ∃ c : zlL, ds = certD c ∧ c.signs.length ≤ 1048576 := by
  obtain ⟨d1, ds, rfl, h1, h⟩ := zh h
  obtain ⟨d2, ds, rfl, h2, h⟩ := zh h
  obtain ⟨d3, ds, rfl, h3, h⟩ := zh h
  obtain rfl := zcW h
  obtain ⟨a1, rfl, k1⟩ := zah h1
  obtain ⟨a2, rfl, _⟩ := zah h2
  obtain ⟨a3, rfl⟩ := dec_signs h3
  simp only [zcx, zeQ] at hb
  have := signs_bulk a3
  exact ⟨⟨a1, a2, a3⟩, rfl, by simp only; omega⟩
structure PfS (p : zhR) : Prop where
  small : zqB p
  path : p.path.length ≤ 1048576
  headers : p.headers.length ≤ 1048576
  signs : p.cert.signs.length ≤ 1048576
theorem dec_proof {ds : List D} (h : zbO tyProof ds) (hb : zcx ds ≤ 1048576) : ∃ p : zhR, ds = proofD p ∧ PfS p := by
  obtain ⟨d1, ds, rfl, h1, h⟩ := zh h
  obtain ⟨d2, ds, rfl, h2, h⟩ := zh h
  obtain ⟨d3, ds, rfl, h3, h⟩ := zh h
  obtain ⟨d4, ds, rfl, h4, h⟩ := zh h
  obtain ⟨d5, ds, rfl, h5, h⟩ := zh h
  obtain ⟨d6, ds, rfl, h6, h⟩ := zh h
  obtain ⟨d7, ds, rfl, h7, h⟩ := zh h
  obtain ⟨d8, ds, rfl, h8, h⟩ := zh h
  obtain ⟨d9, ds, rfl, h9, h⟩ := zh h
  obtain ⟨d10, ds, rfl, h10, h⟩ := zh h
  obtain rfl := zcW h
  obtain ⟨a1, rfl⟩ := zmw h1
  obtain ⟨a2, rfl, k2⟩ := zah h2
  obtain ⟨a3, rfl⟩ := zoF h3
  obtain ⟨a4, rfl⟩ := zdL (f := hdrD) h4 fun e he => (dec_hdr he).imp fun _ h => h.1
  obtain ⟨a5, rfl, k5⟩ := zah h5
  obtain ⟨a6, rfl, k6⟩ := zah h6
  obtain ⟨a7, rfl, k7⟩ := zqf (f := fun x : Int => [D.int .i64 x]) h7 fun e he => dec_int1 he
  obtain ⟨a8, rfl, k8⟩ := zah h8
  obtain ⟨a9, rfl, k9⟩ := zah h9
  obtain ⟨a10, rfl⟩ := dec_signs h10
  simp only [zcx, zeQ, zrk] at hb
  have b4 := zdr (f := hdrD) (fun a => by simp only [hdrD, zcx, zeQ]; omega) a4
  have b7 := zdr (f := fun x : Int => [D.int .i64 x]) (fun a => by simp only [zcx, zeQ]; omega) a7
  have b10 := signs_bulk a10
  refine ⟨⟨a1, a2, a3, a4, a5, a6, a7, ⟨a8, a9, a10⟩⟩, rfl, ⟨?_, ?_, ?_, ?_, ?_, k2, k5, k6, k7⟩, ?_, ?_, ?_⟩ <;> simp only <;> omega
theorem dec_bool {d : D} (h : zhS .bool d) : ∃ b, d = .bool b := by cases h with | bool b => exact ⟨b, rfl⟩
def tyEntry : List Ty := [.int .i64, .int .i64, .slice znA, .int .i64, .int .i64]
def tyM1 : List Ty := [.int .i64, .int .i64, .int .i64, .int .i64, .int .i64, .int .i64, .int .i64, .int .i64, .int .i64, .slice znA]
def tyM2 : List Ty := [.slice tyChange, .slice tyEntry, .slice [.int .u8], .str, .int .i64]
def tyMsg : List Ty := tyM1 ++ (tyCert ++ (tyM2 ++ (tyProof ++ znO)))
theorem zgx {b : List Ty} : ∀ {a : List Ty} {ds : List D}, zbO (a ++ b) ds → ∃ x y, ds = x ++ y ∧ zbO a x ∧ zbO b y
  | [], ds, h => ⟨[], ds, rfl, ⟨rfl, by simp⟩, h⟩
  | t :: a, ds, h => by
    obtain ⟨d, ds, rfl, h1, h⟩ := zh (t := t) (ts := a ++ b) h
    obtain ⟨x, y, rfl, h2, h3⟩ := zgx (a := a) h
    refine ⟨d :: x, y, rfl, ⟨by simp [h2.1], fun i t' d' ht hd => ?_⟩, h3⟩
    cases i with
    | zero => simp only [List.getElem?_cons_zero, Option.some.injEq] at ht hd; subst ht; subst hd; exact h1
    | succ i => exact h2.2 i t' d' (by simpa using ht) (by simpa using hd)
theorem dec_entry {ds : List D} (h : zbO tyEntry ds) : ∃ s : zhh, ds = zei s := by
  obtain ⟨d1, ds, rfl, h1, h⟩ := zh h
  obtain ⟨d2, ds, rfl, h2, h⟩ := zh h
  obtain ⟨d3, ds, rfl, h3, h⟩ := zh h
  obtain ⟨d4, ds, rfl, h4, h⟩ := zh h
  obtain ⟨d5, ds, rfl, h5, h⟩ := zh h
  obtain rfl := zcW h
  obtain ⟨a1, rfl, _⟩ := zah h1
  obtain ⟨a2, rfl, _⟩ := zah h2
  obtain ⟨a3, rfl⟩ := zdL (f := zaH) h3 (fun e he => (zmx he).imp fun _ h => h.1)
  obtain ⟨a4, rfl, _⟩ := zah h4
  obtain ⟨a5, rfl, _⟩ := zah h5
  exact ⟨⟨a1, a2, a3, a4, a5⟩, rfl⟩
theorem okB_bulk {b : List zt} (h : zdd (zcR b) ≤ 1048576) : okB b ∧ ziF b := by
  have hl := leB_bulk h
  refine ⟨⟨by have := hl.1; omega, fun x hx => ?_⟩, by have := hl.1; omega, fun x hx => ⟨by have := (hl.2 x hx).1; omega, fun r hr => by have := (hl.2 x hx).2 r hr; omega⟩⟩
  have e := zeD (l := b) (f := zaH) hx
  unfold zcR at h
  simp only [zaH, zcx, zeQ] at e
  exact ⟨by omega, by omega, by have := (hl.2 x hx).1; omega, fun r hr => by have := (hl.2 x hx).2 r hr; omega⟩
theorem okCh_bulk {c : zdx} (h : zcx (zcD c) ≤ 1048576) : okCh c ∧ zif c := by
  simp only [zcD, zcx, zeQ] at h
  have b1 := signs_bulk c.cert.signs
  have b2 := zdr (f := zhG) (fun a => by simp only [zhG, zcx, zeQ]; omega) c.above
  have e2 : zdd (c.above.map zhG) = zdd (zgy c.above) := rfl
  have key : ∀ p ∈ c.above, p.signs.length ≤ 1048576 ∧ okB p.batch ∧ ziF p.batch := fun p hp => by
    have e := zeD (l := c.above) (f := zhG) hp
    simp only [zhG, zcx, zeQ] at e
    have b3 := signs_bulk p.signs
    exact ⟨by omega, okB_bulk (by omega)⟩
  exact ⟨⟨by omega, by omega, fun p hp => ⟨by have := (key p hp).1; omega, (key p hp).2.1⟩⟩, by omega, by omega, fun p hp => ⟨by have := (key p hp).1; omega, (key p hp).2.2⟩⟩
structure TM1 where
  kind : Int
  src : Int
  view : Int
  seq : Int
  dig : Int
  client : Int
  time : Int
  rerr : Int
  roff : Int
  batch : List zt
structure TM2 where
  changes : List zdx
  entries : List zhh
  state : List UInt8
  topic : List UInt8
  offset : Int
def m1D (m : TM1) : List D := [.int .i64 m.kind, .int .i64 m.src, .int .i64 m.view, .int .i64 m.seq, .int .i64 m.dig, .int .i64 m.client, .int .i64 m.time, .int .i64 m.rerr, .int .i64 m.roff, .slice (zcR m.batch)]
def m2D (m : TM2) : List D := [.slice (zeu m.changes), .slice (zet m.entries), .slice (bcs m.state), .str m.topic, .int .i64 m.offset]
theorem dec_m1 {ds : List D} (h : zbO tyM1 ds) : ∃ m : TM1, ds = m1D m := by
  obtain ⟨d1, ds, rfl, h1, h⟩ := zh h
  obtain ⟨d2, ds, rfl, h2, h⟩ := zh h
  obtain ⟨d3, ds, rfl, h3, h⟩ := zh h
  obtain ⟨d4, ds, rfl, h4, h⟩ := zh h
  obtain ⟨d5, ds, rfl, h5, h⟩ := zh h
  obtain ⟨d6, ds, rfl, h6, h⟩ := zh h
  obtain ⟨d7, ds, rfl, h7, h⟩ := zh h
  obtain ⟨d8, ds, rfl, h8, h⟩ := zh h
  obtain ⟨d9, ds, rfl, h9, h⟩ := zh h
  obtain ⟨d10, ds, rfl, h10, h⟩ := zh h
  obtain rfl := zcW h
  obtain ⟨a1, rfl, _⟩ := zah h1
  obtain ⟨a2, rfl, _⟩ := zah h2
  obtain ⟨a3, rfl, _⟩ := zah h3
  obtain ⟨a4, rfl, _⟩ := zah h4
  obtain ⟨a5, rfl, _⟩ := zah h5
  obtain ⟨a6, rfl, _⟩ := zah h6
  obtain ⟨a7, rfl, _⟩ := zah h7
  obtain ⟨a8, rfl, _⟩ := zah h8
  obtain ⟨a9, rfl, _⟩ := zah h9
  obtain ⟨a10, rfl⟩ := zdL (f := zaH) h10 (fun e he => (zmx he).imp fun _ h => h.1)
  exact ⟨⟨a1, a2, a3, a4, a5, a6, a7, a8, a9, a10⟩, rfl⟩
theorem dec_m2 {ds : List D} (h : zbO tyM2 ds) : ∃ m : TM2, ds = m2D m := by
  obtain ⟨d1, ds, rfl, h1, h⟩ := zh h
  obtain ⟨d2, ds, rfl, h2, h⟩ := zh h
  obtain ⟨d3, ds, rfl, h3, h⟩ := zh h
  obtain ⟨d4, ds, rfl, h4, h⟩ := zh h
  obtain ⟨d5, ds, rfl, h5, h⟩ := zh h
  obtain rfl := zcW h
  obtain ⟨a1, rfl⟩ := zdL (f := zcD) h1 (fun e he => (dec_change he).imp fun _ h => h.1)
  obtain ⟨a2, rfl⟩ := zdL (f := zei) h2 (fun e he => dec_entry he)
  obtain ⟨a3, rfl⟩ := zoF h3
  obtain ⟨a4, rfl⟩ := zmw h4
  obtain ⟨a5, rfl, _⟩ := zah h5
  exact ⟨⟨a1, a2, a3, a4, a5⟩, rfl⟩
abbrev msgD (m : zfc) : List D :=
  [.int .i64 m.kind, .int .i64 m.src, .int .i64 m.view, .int .i64 m.seq, .int .i64 m.dig, .int .i64 m.client, .int .i64 m.time, .int .i64 m.rerr, .int .i64 m.roff, .slice (zcR m.batch),
    .int .i64 m.cert.seq, .int .i64 m.cert.dig, .slice (zbQ m.cert.signs), .slice (zeu m.changes), .slice (zet m.entries), .slice (bcs m.state), .str m.topic, .int .i64 m.offset,
    .str m.proof.topic, .int .i64 m.proof.offset, .slice (bcs m.proof.rec_), .slice (zqR m.proof.headers), .int .i64 m.proof.index, .int .i64 m.proof.count, .slice (zlt m.proof.path), .int .i64 m.proof.cert.seq, .int .i64 m.proof.cert.dig, .slice (zbQ m.proof.cert.signs), .int .i64 m.key, .int .i64 m.sdig]
theorem dec_msg {ds : List D} (h : zbO tyMsg ds) (hb : zcx ds ≤ 1048576) : ∃ m : zfc, ds = msgD m ∧ zdy m := by
  obtain ⟨x1, ds, rfl, h1, h⟩ := zgx h
  obtain ⟨x2, ds, rfl, h2, h⟩ := zgx h
  obtain ⟨x3, ds, rfl, h3, h⟩ := zgx h
  obtain ⟨x4, x5, rfl, h4, h5⟩ := zgx h
  simp only [zjv] at hb
  obtain ⟨m1, rfl⟩ := dec_m1 h1
  obtain ⟨c, rfl, hc⟩ := dec_cert h2 (by omega)
  obtain ⟨m2, rfl⟩ := dec_m2 h3
  obtain ⟨p, rfl, hp⟩ := dec_proof h4 (by omega)
  obtain ⟨g, rfl, _⟩ := znH h5
  have b1 : zcx (m1D m1) ≤ 1048576 := by omega
  have b2 : zcx (m2D m2) ≤ 1048576 := by omega
  clear hb h h1 h2 h3 h4 h5
  refine ⟨⟨m1.kind, m1.src, m1.view, m1.seq, m1.dig, m1.client, m1.time, m1.rerr, m1.roff, m1.batch, c, m2.changes, m2.entries, m2.state, m2.topic, m2.offset, p, g.key, g.dig⟩, rfl, ?_⟩
  simp only [m1D, zcx, zeQ] at b1
  simp only [m2D, zcx, zeQ, zrk] at b2
  have b10 := okB_bulk (b := m1.batch) (by omega)
  have b14 := zdr (f := zcD) (fun a => by simp only [zcD, zcx, zeQ]; omega) m2.changes
  have b15 := zdr (f := zei) (fun a => by simp only [zei, zcx, zeQ]; omega) m2.entries
  have e14 : zdd (m2.changes.map zcD) = zdd (zeu m2.changes) := rfl
  have e15 : zdd (m2.entries.map zei) = zdd (zet m2.entries) := rfl
  refine ⟨b10.1, b10.2, ?_, ?_, fun y hy => ?_, ?_, fun x hx => ?_, hp.small, ?_, ?_⟩
  · simp only; omega
  · simp only; omega
  · have e := zeD (l := m2.changes) (f := zcD) hy
    exact okCh_bulk (by omega)
  · simp only; omega
  · have e := zeD (l := m2.entries) (f := zei) hx
    simp only [zei, zcx, zeQ] at e
    exact okB_bulk (by omega)
  · simp only; omega
  · simp only; omega
structure TSop where
  do_ : Int
  op : TOp
  key : Int
  m : zfc
  now : Bool
abbrev sopD (o : TSop) : List D := .int .i64 o.do_ :: (opD o.op ++ (.int .i64 o.key :: (msgD o.m ++ [.bool o.now])))
def tySop : List Ty := .int .i64 :: (tyOp ++ (.int .i64 :: (tyMsg ++ [.bool])))
theorem dec_sop {ds : List D} (h : zbO tySop ds) (hb : zcx ds ≤ 1048576) : ∃ o : TSop, ds = sopD o ∧ zkj o.do_ ∧ zkj o.key ∧ opR o.op ∧ zcx (opD o.op) ≤ 1048576 ∧ zdy o.m := by
  obtain ⟨d1, ds, rfl, h1, h⟩ := zh h
  obtain ⟨x1, ds, rfl, h2, h⟩ := zgx h
  obtain ⟨d3, ds, rfl, h3, h⟩ := zh h
  obtain ⟨x4, ds, rfl, h4, h⟩ := zgx h
  obtain ⟨d5, ds, rfl, h5, h⟩ := zh h
  obtain rfl := zcW h
  simp only [zcx, zjv] at hb
  obtain ⟨a1, rfl, k1⟩ := zah h1
  obtain ⟨o, rfl, ho⟩ := dec_op h2
  obtain ⟨a3, rfl, k3⟩ := zah h3
  obtain ⟨m, rfl, hm⟩ := dec_msg h4 (by omega)
  obtain ⟨b, rfl⟩ := dec_bool h5
  exact ⟨⟨a1, o, a3, m, b⟩, rfl, k1, k3, ho, by simp only; omega, hm⟩
end Go.Proofs.YtdgcepphjnoalaaGreat
