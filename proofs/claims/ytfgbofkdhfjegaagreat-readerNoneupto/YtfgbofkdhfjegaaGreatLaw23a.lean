/- Cases, proofs, blocks and certificates of chapter 23, out of their data. No program in sight. -/
import Derived.Test.YtfgbofkdhfjegaaGreatNr3
import Derived.Test.YtfgbofkdhfjegaaGreatCl1
import Derived.Test.YtfgbofkdhfjegaaGreatSpBulk
import Derived.Test.YtfgbofkdhfjegaaGreatBv1
import Derived.Test.YtfgbofkdhfjegaaGreatCk4
import Derived.Test.YtfgbofkdhfjegaaGreatBt3
set_option linter.all false
namespace Go.Proofs.YtfgbofkdhfjegaaGreat
open Go.AW
def tyHdr : List Ty := [.int .i64, .int .i64, .int .i64, .int .i64, .int .i64]
def tyCert : List Ty := [.int .i64, .int .i64, .slice zrV]
def tyProof : List Ty := [.str, .int .i64, .slice [.int .u8], .slice tyHdr, .int .i64, .int .i64, .slice [.int .i64], .int .i64, .int .i64, .slice zrV]
theorem dec_hdr {ds : List D} (h : zcF tyHdr ds) : ∃ x : zcS,ds = hdrD x ∧ ziM x.seq := by
 obtain ⟨d1,ds,rfl,h1,h⟩ := zw h
 obtain ⟨d2,ds,rfl,h2,h⟩ := zw h
 obtain ⟨d3,ds,rfl,h3,h⟩ := zw h
 obtain ⟨d4,ds,rfl,h4,h⟩ := zw h
 obtain ⟨d5,ds,rfl,h5,h⟩ := zw h
 obtain rfl := zej h
 obtain ⟨a1,rfl,k1⟩ := zaK h1
 obtain ⟨a2,rfl,_⟩ := zaK h2
 obtain ⟨a3,rfl,_⟩ := zaK h3
 obtain ⟨a4,rfl,_⟩ := zaK h4
 obtain ⟨a5,rfl,_⟩ := zaK h5
 exact ⟨⟨a1,a2,a3,a4,a5⟩,rfl,k1⟩
theorem dec_int1 {ds : List D} (h : zcF [.int .i64] ds) : ∃ x : Int,ds = [.int .i64 x] ∧ ziM x := by
 obtain ⟨d1,ds,rfl,h1,h⟩ := zw h
 obtain rfl := zej h
 obtain ⟨a1,rfl,k1⟩ := zaK h1
 exact ⟨a1,rfl,k1⟩
theorem dec_signs {d : D} (h : zls (.slice zrV) d) : ∃ l : List zI,d = .slice (zbd l) := by
 obtain ⟨l,rfl⟩ := zet (f := zil) h (fun e he => (zrO he).imp fun _ h => h.1)
 exact ⟨l,rfl⟩
theorem signs_bulk (l : List zI) : l.length ≤ zdA (zbd l) := zdY (f := zil) (fun a => by simp only [zil,zcZ,zgt]; omega) l
theorem dec_cert {ds : List D} (h : zcF tyCert ds) (hb : zcZ ds ≤ 1048576) : ∃ c : zff,ds = certD c ∧ c.signs.length ≤ 1048576 := by
 obtain ⟨d1,ds,rfl,h1,h⟩ := zw h
 obtain ⟨d2,ds,rfl,h2,h⟩ := zw h
 obtain ⟨d3,ds,rfl,h3,h⟩ := zw h
 obtain rfl := zej h
 obtain ⟨a1,rfl,k1⟩ := zaK h1
 obtain ⟨a2,rfl,_⟩ := zaK h2
 obtain ⟨a3,rfl⟩ := dec_signs h3
 simp only [zcZ,zgt] at hb
 have := signs_bulk a3
 exact ⟨⟨a1,a2,a3⟩,rfl,by simp only; omega⟩
structure PfS (p : zcf) : Prop where
 small : zgc p
 path : p.path.length ≤ 1048576
 headers : p.headers.length ≤ 1048576
 signs : p.cert.signs.length ≤ 1048576
theorem dec_proof {ds : List D} (h : zcF tyProof ds) (hb : zcZ ds ≤ 1048576) : ∃ p : zcf,ds = proofD p ∧ PfS p := by
 obtain ⟨d1,ds,rfl,h1,h⟩ := zw h
 obtain ⟨d2,ds,rfl,h2,h⟩ := zw h
 obtain ⟨d3,ds,rfl,h3,h⟩ := zw h
 obtain ⟨d4,ds,rfl,h4,h⟩ := zw h
 obtain ⟨d5,ds,rfl,h5,h⟩ := zw h
 obtain ⟨d6,ds,rfl,h6,h⟩ := zw h
 obtain ⟨d7,ds,rfl,h7,h⟩ := zw h
 obtain ⟨d8,ds,rfl,h8,h⟩ := zw h
 obtain ⟨d9,ds,rfl,h9,h⟩ := zw h
 obtain ⟨d10,ds,rfl,h10,h⟩ := zw h
 obtain rfl := zej h
 obtain ⟨a1,rfl⟩ := zwk h1
 obtain ⟨a2,rfl,k2⟩ := zaK h2
 obtain ⟨a3,rfl⟩ := zsY h3
 obtain ⟨a4,rfl⟩ := zet (f := hdrD) h4 fun e he => (dec_hdr he).imp fun _ h => h.1
 obtain ⟨a5,rfl,k5⟩ := zaK h5
 obtain ⟨a6,rfl,k6⟩ := zaK h6
 obtain ⟨a7,rfl,k7⟩ := zuS (f := fun x : Int => [D.int .i64 x]) h7 fun e he => dec_int1 he
 obtain ⟨a8,rfl,k8⟩ := zaK h8
 obtain ⟨a9,rfl,k9⟩ := zaK h9
 obtain ⟨a10,rfl⟩ := dec_signs h10
 simp only [zcZ,zgt,zwC] at hb
 have b4 := zdY (f := hdrD) (fun a => by simp only [hdrD,zcZ,zgt]; omega) a4
 have b7 := zdY (f := fun x : Int => [D.int .i64 x]) (fun a => by simp only [zcZ,zgt]; omega) a7
 have b10 := signs_bulk a10
 refine ⟨⟨a1,a2,a3,a4,a5,a6,a7,⟨a8,a9,a10⟩⟩,rfl,⟨?_, ?_, ?_, ?_, ?_,k2,k5,k6,k7⟩, ?_, ?_, ?_⟩ <;> simp only <;> omega
structure okC (c : TCase) : Prop where
 ops : ∀ l ∈ c.bats, ∀ x ∈ l,zkF x.op ≤ 20971520
 sum : (c.bats.map List.length).sum ≤ 1048576
 voters : c.voters < 65536
 topic : c.topic.length ≤ 1048576
 offset : ziM c.offset
 tl : c.twists.length ≤ 1048576
 twists : ∀ w ∈ c.twists,TwI w
 bad : c.bad.length ≤ 1048576
 f : ziM c.f
def tyEntry : List Ty := [.int .i64, .int .i64, .slice zrH, .int .i64, .int .i64]
def tyM1 : List Ty := [.int .i64, .int .i64, .int .i64, .int .i64, .int .i64, .int .i64, .int .i64, .int .i64, .int .i64, .slice zrH]
def tyM2 : List Ty := [.slice tyChange, .slice tyEntry, .slice [.int .u8], .str, .int .i64]
def tyMsg : List Ty := tyM1 ++ (tyCert ++ (tyM2 ++ (tyProof ++ zrV)))
theorem zlU {b : List Ty} : ∀ {a : List Ty} {ds : List D},zcF (a ++ b) ds → ∃ x y,ds = x ++ y ∧ zcF a x ∧ zcF b y
 | [],ds,h => ⟨[],ds,rfl,⟨rfl,by simp⟩,h⟩
 | t :: a,ds,h => by
  obtain ⟨d,ds,rfl,h1,h⟩ := zw (t := t) (ts := a ++ b) h
  obtain ⟨x,y,rfl,h2,h3⟩ := zlU (a := a) h
  refine ⟨d :: x,y,rfl,⟨by simp [h2.1],fun i t' d' ht hd => ?_⟩,h3⟩
  cases i with
  | zero => simp only [List.getElem?_cons_zero,Option.some.injEq] at ht hd; subst ht; subst hd; exact h1
  | succ i => exact h2.2 i t' d' (by simpa using ht) (by simpa using hd)
theorem dec_entry {ds : List D} (h : zcF tyEntry ds) : ∃ s : zmA,ds = zhB s := by
 obtain ⟨d1,ds,rfl,h1,h⟩ := zw h
 obtain ⟨d2,ds,rfl,h2,h⟩ := zw h
 obtain ⟨d3,ds,rfl,h3,h⟩ := zw h
 obtain ⟨d4,ds,rfl,h4,h⟩ := zw h
 obtain ⟨d5,ds,rfl,h5,h⟩ := zw h
 obtain rfl := zej h
 obtain ⟨a1,rfl,_⟩ := zaK h1
 obtain ⟨a2,rfl,_⟩ := zaK h2
 obtain ⟨a3,rfl⟩ := zet (f := zcl) h3 (fun e he => (zqB he).imp fun _ h => h.1)
 obtain ⟨a4,rfl,_⟩ := zaK h4
 obtain ⟨a5,rfl,_⟩ := zaK h5
 exact ⟨⟨a1,a2,a3,a4,a5⟩,rfl⟩
theorem okB_bulk {b : List zq} (h : zdA (zdi b) ≤ 1048576) : okB b ∧ zoO b := by
 have hl := leB_bulk h
 refine ⟨⟨by have := hl.1; omega,fun x hx => ?_⟩,by have := hl.1; omega,fun x hx => ⟨by have := (hl.2 x hx).1; omega,fun r hr => by have := (hl.2 x hx).2 r hr; omega⟩⟩
 have e := zfU (l := b) (f := zcl) hx
 unfold zdi at h
 simp only [zcl,zcZ,zgt] at e
 exact ⟨by omega,by omega,by have := (hl.2 x hx).1; omega,fun r hr => by have := (hl.2 x hx).2 r hr; omega⟩
theorem okCh_bulk {c : zgw} (h : zcZ (zeu c) ≤ 1048576) : okCh c ∧ zmR c := by
 simp only [zeu,zcZ,zgt] at h
 have b1 := signs_bulk c.cert.signs
 have b2 := zdY (f := znX) (fun a => by simp only [znX,zcZ,zgt]; omega) c.above
 have e2 : zdA (c.above.map znX) = zdA (zur c.above) := rfl
 have key : ∀ p ∈ c.above,p.signs.length ≤ 1048576 ∧ okB p.batch ∧ zoO p.batch := fun p hp => by
  have e := zfU (l := c.above) (f := znX) hp
  simp only [znX,zcZ,zgt] at e
  have b3 := signs_bulk p.signs
  exact ⟨by omega,okB_bulk (by omega)⟩
 exact ⟨⟨by omega,by omega,fun p hp => ⟨by have := (key p hp).1; omega,(key p hp).2.1⟩⟩,by omega,by omega,fun p hp => ⟨by have := (key p hp).1; omega,(key p hp).2.2⟩⟩
structure TM1 where
 kind : Int
 src : Int
 view : Int
 seq : Int
 dig : Int
 client : Int
 time : Int
 rerr : Int
 roff : Int
 batch : List zq
structure TM2 where
 changes : List zgw
 entries : List zmA
 state : List UInt8
 topic : List UInt8
 offset : Int
def m1D (m : TM1) : List D := [.int .i64 m.kind, .int .i64 m.src, .int .i64 m.view, .int .i64 m.seq, .int .i64 m.dig, .int .i64 m.client, .int .i64 m.time, .int .i64 m.rerr, .int .i64 m.roff, .slice (zdi m.batch)]
def m2D (m : TM2) : List D := [.slice (zng m.changes), .slice (znc m.entries), .slice (bcs m.state), .str m.topic, .int .i64 m.offset]
theorem dec_m1 {ds : List D} (h : zcF tyM1 ds) : ∃ m : TM1,ds = m1D m := by
 obtain ⟨d1,ds,rfl,h1,h⟩ := zw h
 obtain ⟨d2,ds,rfl,h2,h⟩ := zw h
 obtain ⟨d3,ds,rfl,h3,h⟩ := zw h
 obtain ⟨d4,ds,rfl,h4,h⟩ := zw h
 obtain ⟨d5,ds,rfl,h5,h⟩ := zw h
 obtain ⟨d6,ds,rfl,h6,h⟩ := zw h
 obtain ⟨d7,ds,rfl,h7,h⟩ := zw h
 obtain ⟨d8,ds,rfl,h8,h⟩ := zw h
 obtain ⟨d9,ds,rfl,h9,h⟩ := zw h
 obtain ⟨d10,ds,rfl,h10,h⟩ := zw h
 obtain rfl := zej h
 obtain ⟨a1,rfl,_⟩ := zaK h1
 obtain ⟨a2,rfl,_⟩ := zaK h2
 obtain ⟨a3,rfl,_⟩ := zaK h3
 obtain ⟨a4,rfl,_⟩ := zaK h4
 obtain ⟨a5,rfl,_⟩ := zaK h5
 obtain ⟨a6,rfl,_⟩ := zaK h6
 obtain ⟨a7,rfl,_⟩ := zaK h7
 obtain ⟨a8,rfl,_⟩ := zaK h8
 obtain ⟨a9,rfl,_⟩ := zaK h9
 obtain ⟨a10,rfl⟩ := zet (f := zcl) h10 (fun e he => (zqB he).imp fun _ h => h.1)
 exact ⟨⟨a1,a2,a3,a4,a5,a6,a7,a8,a9,a10⟩,rfl⟩
theorem dec_m2 {ds : List D} (h : zcF tyM2 ds) : ∃ m : TM2,ds = m2D m := by
 obtain ⟨d1,ds,rfl,h1,h⟩ := zw h
 obtain ⟨d2,ds,rfl,h2,h⟩ := zw h
 obtain ⟨d3,ds,rfl,h3,h⟩ := zw h
 obtain ⟨d4,ds,rfl,h4,h⟩ := zw h
 obtain ⟨d5,ds,rfl,h5,h⟩ := zw h
 obtain rfl := zej h
 obtain ⟨a1,rfl⟩ := zet (f := zeu) h1 (fun e he => (dec_change he).imp fun _ h => h.1)
 obtain ⟨a2,rfl⟩ := zet (f := zhB) h2 (fun e he => dec_entry he)
 obtain ⟨a3,rfl⟩ := zsY h3
 obtain ⟨a4,rfl⟩ := zwk h4
 obtain ⟨a5,rfl,_⟩ := zaK h5
 exact ⟨⟨a1,a2,a3,a4,a5⟩,rfl⟩
theorem dec_msg {ds : List D} (h : zcF tyMsg ds) (hb : zcZ ds ≤ 1048576) : ∃ m : zlS,ds = msgD m ∧ ziS m := by
 obtain ⟨x1,ds,rfl,h1,h⟩ := zlU h
 obtain ⟨x2,ds,rfl,h2,h⟩ := zlU h
 obtain ⟨x3,ds,rfl,h3,h⟩ := zlU h
 obtain ⟨x4,x5,rfl,h4,h5⟩ := zlU h
 simp only [zrb] at hb
 obtain ⟨m1,rfl⟩ := dec_m1 h1
 obtain ⟨c,rfl,hc⟩ := dec_cert h2 (by omega)
 obtain ⟨m2,rfl⟩ := dec_m2 h3
 obtain ⟨p,rfl,hp⟩ := dec_proof h4 (by omega)
 obtain ⟨g,rfl,_⟩ := zrO h5
 have b1 : zcZ (m1D m1) ≤ 1048576 := by omega
 have b2 : zcZ (m2D m2) ≤ 1048576 := by omega
 clear hb h h1 h2 h3 h4 h5
 refine ⟨⟨m1.kind,m1.src,m1.view,m1.seq,m1.dig,m1.client,m1.time,m1.rerr,m1.roff,m1.batch,c,m2.changes,m2.entries,m2.state,m2.topic,m2.offset,p,g.key,g.dig⟩,rfl, ?_⟩
 simp only [m1D,zcZ,zgt] at b1
 simp only [m2D,zcZ,zgt,zwC] at b2
 have b10 := okB_bulk (b := m1.batch) (by omega)
 have b14 := zdY (f := zeu) (fun a => by simp only [zeu,zcZ,zgt]; omega) m2.changes
 have b15 := zdY (f := zhB) (fun a => by simp only [zhB,zcZ,zgt]; omega) m2.entries
 have e14 : zdA (m2.changes.map zeu) = zdA (zng m2.changes) := rfl
 have e15 : zdA (m2.entries.map zhB) = zdA (znc m2.entries) := rfl
 refine ⟨b10.1,b10.2, ?_, ?_,fun y hy => ?_, ?_,fun x hx => ?_,hp.small, ?_, ?_⟩
 ·simp only; omega
 ·simp only; omega
 ·have e := zfU (l := m2.changes) (f := zeu) hy
  exact okCh_bulk (by omega)
 ·simp only; omega
 ·have e := zfU (l := m2.entries) (f := zhB) hx
  simp only [zhB,zcZ,zgt] at e
  exact okB_bulk (by omega)
 ·simp only; omega
 ·simp only; omega
structure TAct where
 do_ : Int
 offset : Int
 turn : Bool
 m : zlS
abbrev actD (a : TAct) : List D := .int .i64 a.do_ :: .int .i64 a.offset :: .bool a.turn :: msgD a.m
abbrev actsE (l : List TAct) : List (List D) := l.map actD
structure TCas where
 f : Int
 me : Int
 topic : List UInt8
 offset : Int
 recs : List (List UInt8)
 voters : Nat
 bad : List zI
 acts : List TAct
abbrev casD (c : TCas) : List D := [.int .i64 c.f, .int .i64 c.me, .str c.topic, .int .i64 c.offset, .slice (zbZ c.recs), .int .u16 c.voters, .slice (zbd c.bad), .slice (actsE c.acts)]
abbrev zqD (c : TCas) : List AV := (casD c).map .d
def actOk (a : TAct) : Prop := ziM a.offset ∧ ziS a.m
structure casOk (c : TCas) : Prop where
 f : ziM c.f
 me : ziM c.me
 topic : c.topic.length ≤ 1048576
 offset : ziM c.offset
 recs : c.recs.length ≤ 1048576
 each : ∀ r ∈ c.recs,r.length ≤ 1048576
 voters : c.voters < 65536
 bad : c.bad.length ≤ 1048576
 many : c.acts.length ≤ 1048576
 acts : ∀ a ∈ c.acts,actOk a
end Go.Proofs.YtfgbofkdhfjegaaGreat
