/- Chapter 25: what the law is handed, decoded. -/
import Derived.Test.YtfgbofkdhfjegaaGreatNr3
import Derived.Test.YtfgbofkdhfjegaaGreatBv1
import Derived.Test.YtfgbofkdhfjegaaGreatCk4
import Derived.Test.YtfgbofkdhfjegaaGreatBt3
set_option linter.all false
set_option maxRecDepth 100000
namespace Go.Proofs.YtfgbofkdhfjegaaGreat
open Go.AW
theorem dec_bool {d : D} (h : ziN .bool d) : ∃ b,d = .bool b := by cases h with | bool b => exact ⟨b,rfl⟩
def tyEntry : List Ty := [.int .i64, .int .i64, .slice zrA, .int .i64, .int .i64]
def tyM1 : List Ty := [.int .i64, .int .i64, .int .i64, .int .i64, .int .i64, .int .i64, .int .i64, .int .i64, .int .i64, .slice zrA]
def tyM2 : List Ty := [.slice tyChange, .slice tyEntry, .slice [.int .u8], .str, .int .i64]
def tyMsg : List Ty := tyM1 ++ (tyCert ++ (tyM2 ++ (tyProof ++ zqC)))
theorem zlI {b : List Ty} : ∀ {a : List Ty} {ds : List D},zct (a ++ b) ds → ∃ x y,ds = x ++ y ∧ zct a x ∧ zct b y
 | [],ds,h => ⟨[],ds,rfl,⟨rfl,by simp⟩,h⟩
 | t :: a,ds,h => by
  obtain ⟨d,ds,rfl,h1,h⟩ := zq (t := t) (ts := a ++ b) h
  obtain ⟨x,y,rfl,h2,h3⟩ := zlI (a := a) h
  refine ⟨d :: x,y,rfl,⟨by simp [h2.1],fun i t' d' ht hd => ?_⟩,h3⟩
  cases i with
  | zero => simp only [List.getElem?_cons_zero,Option.some.injEq] at ht hd; subst ht; subst hd; exact h1
  | succ i => exact h2.2 i t' d' (by simpa using ht) (by simpa using hd)
theorem dec_entry {ds : List D} (h : zct tyEntry ds) : ∃ s : zmn,ds = zhk s := by
 obtain ⟨d1,ds,rfl,h1,h⟩ := zq h
 obtain ⟨d2,ds,rfl,h2,h⟩ := zq h
 obtain ⟨d3,ds,rfl,h3,h⟩ := zq h
 obtain ⟨d4,ds,rfl,h4,h⟩ := zq h
 obtain ⟨d5,ds,rfl,h5,h⟩ := zq h
 obtain rfl := zdR h
 obtain ⟨a1,rfl,_⟩ := zaA h1
 obtain ⟨a2,rfl,_⟩ := zaA h2
 obtain ⟨a3,rfl⟩ := zeq (f := zch) h3 (fun e he => (zqv he).imp fun _ h => h.1)
 obtain ⟨a4,rfl,_⟩ := zaA h4
 obtain ⟨a5,rfl,_⟩ := zaA h5
 exact ⟨⟨a1,a2,a3,a4,a5⟩,rfl⟩
theorem okB_bulk {b : List zp} (h : zdl (zdf b) ≤ 1048576) : okB b ∧ zoD b := by
 have hl := leB_bulk h
 refine ⟨⟨by have := hl.1; omega,fun x hx => ?_⟩,by have := hl.1; omega,fun x hx => ⟨by have := (hl.2 x hx).1; omega,fun r hr => by have := (hl.2 x hx).2 r hr; omega⟩⟩
 have e := zfH (l := b) (f := zch) hx
 unfold zdf at h
 simp only [zch,zcE,zeM] at e
 exact ⟨by omega,by omega,by have := (hl.2 x hx).1; omega,fun r hr => by have := (hl.2 x hx).2 r hr; omega⟩
theorem okCh_bulk {c : zgg} (h : zcE (zer c) ≤ 1048576) : okCh c ∧ zmD c := by
 simp only [zer,zcE,zeM] at h
 have b1 := signs_bulk c.cert.signs
 have b2 := zdt (f := znM) (fun a => by simp only [znM,zcE,zeM]; omega) c.above
 have e2 : zdl (c.above.map znM) = zdl (zuk c.above) := rfl
 have key : ∀ p ∈ c.above,p.signs.length ≤ 1048576 ∧ okB p.batch ∧ zoD p.batch := fun p hp => by
  have e := zfH (l := c.above) (f := znM) hp
  simp only [znM,zcE,zeM] at e
  have b3 := signs_bulk p.signs
  exact ⟨by omega,okB_bulk (by omega)⟩
 exact ⟨⟨by omega,by omega,fun p hp => ⟨by have := (key p hp).1; omega,(key p hp).2.1⟩⟩,by omega,by omega,fun p hp => ⟨by have := (key p hp).1; omega,(key p hp).2.2⟩⟩
structure TM1 where
 kind : Int
 src : Int
 view : Int
 seq : Int
 dig : Int
 client : Int
 time : Int
 rerr : Int
 roff : Int
 batch : List zp
structure TM2 where
 changes : List zgg
 entries : List zmn
 state : List UInt8
 topic : List UInt8
 offset : Int
def m1D (m : TM1) : List D := [.int .i64 m.kind, .int .i64 m.src, .int .i64 m.view, .int .i64 m.seq, .int .i64 m.dig, .int .i64 m.client, .int .i64 m.time, .int .i64 m.rerr, .int .i64 m.roff, .slice (zdf m.batch)]
def m2D (m : TM2) : List D := [.slice (zkY m.changes), .slice (zkT m.entries), .slice (bcs m.state), .str m.topic, .int .i64 m.offset]
theorem dec_m1 {ds : List D} (h : zct tyM1 ds) : ∃ m : TM1,ds = m1D m := by
 obtain ⟨d1,ds,rfl,h1,h⟩ := zq h
 obtain ⟨d2,ds,rfl,h2,h⟩ := zq h
 obtain ⟨d3,ds,rfl,h3,h⟩ := zq h
 obtain ⟨d4,ds,rfl,h4,h⟩ := zq h
 obtain ⟨d5,ds,rfl,h5,h⟩ := zq h
 obtain ⟨d6,ds,rfl,h6,h⟩ := zq h
 obtain ⟨d7,ds,rfl,h7,h⟩ := zq h
 obtain ⟨d8,ds,rfl,h8,h⟩ := zq h
 obtain ⟨d9,ds,rfl,h9,h⟩ := zq h
 obtain ⟨d10,ds,rfl,h10,h⟩ := zq h
 obtain rfl := zdR h
 obtain ⟨a1,rfl,_⟩ := zaA h1
 obtain ⟨a2,rfl,_⟩ := zaA h2
 obtain ⟨a3,rfl,_⟩ := zaA h3
 obtain ⟨a4,rfl,_⟩ := zaA h4
 obtain ⟨a5,rfl,_⟩ := zaA h5
 obtain ⟨a6,rfl,_⟩ := zaA h6
 obtain ⟨a7,rfl,_⟩ := zaA h7
 obtain ⟨a8,rfl,_⟩ := zaA h8
 obtain ⟨a9,rfl,_⟩ := zaA h9
 obtain ⟨a10,rfl⟩ := zeq (f := zch) h10 (fun e he => (zqv he).imp fun _ h => h.1)
 exact ⟨⟨a1,a2,a3,a4,a5,a6,a7,a8,a9,a10⟩,rfl⟩
theorem dec_m2 {ds : List D} (h : zct tyM2 ds) : ∃ m : TM2,ds = m2D m := by
 obtain ⟨d1,ds,rfl,h1,h⟩ := zq h
 obtain ⟨d2,ds,rfl,h2,h⟩ := zq h
 obtain ⟨d3,ds,rfl,h3,h⟩ := zq h
 obtain ⟨d4,ds,rfl,h4,h⟩ := zq h
 obtain ⟨d5,ds,rfl,h5,h⟩ := zq h
 obtain rfl := zdR h
 obtain ⟨a1,rfl⟩ := zeq (f := zer) h1 (fun e he => (dec_change he).imp fun _ h => h.1)
 obtain ⟨a2,rfl⟩ := zeq (f := zhk) h2 (fun e he => dec_entry he)
 obtain ⟨a3,rfl⟩ := zsS h3
 obtain ⟨a4,rfl⟩ := zsQ h4
 obtain ⟨a5,rfl,_⟩ := zaA h5
 exact ⟨⟨a1,a2,a3,a4,a5⟩,rfl⟩
theorem dec_msg {ds : List D} (h : zct tyMsg ds) (hb : zcE ds ≤ 1048576) : ∃ m : zlj,ds = msgD m ∧ ziR m := by
 obtain ⟨x1,ds,rfl,h1,h⟩ := zlI h
 obtain ⟨x2,ds,rfl,h2,h⟩ := zlI h
 obtain ⟨x3,ds,rfl,h3,h⟩ := zlI h
 obtain ⟨x4,x5,rfl,h4,h5⟩ := zlI h
 simp only [zqV] at hb
 obtain ⟨m1,rfl⟩ := dec_m1 h1
 obtain ⟨c,rfl,hc⟩ := dec_cert h2 (by omega)
 obtain ⟨m2,rfl⟩ := dec_m2 h3
 obtain ⟨p,rfl,hp⟩ := dec_proof h4 (by omega)
 obtain ⟨g,rfl,_⟩ := zrG h5
 have b1 : zcE (m1D m1) ≤ 1048576 := by omega
 have b2 : zcE (m2D m2) ≤ 1048576 := by omega
 clear hb h h1 h2 h3 h4 h5
 refine ⟨⟨m1.kind,m1.src,m1.view,m1.seq,m1.dig,m1.client,m1.time,m1.rerr,m1.roff,m1.batch,c,m2.changes,m2.entries,m2.state,m2.topic,m2.offset,p,g.key,g.dig⟩,rfl, ?_⟩
 simp only [m1D,zcE,zeM] at b1
 simp only [m2D,zcE,zeM,zwt] at b2
 have b10 := okB_bulk (b := m1.batch) (by omega)
 have b14 := zdt (f := zer) (fun a => by simp only [zer,zcE,zeM]; omega) m2.changes
 have b15 := zdt (f := zhk) (fun a => by simp only [zhk,zcE,zeM]; omega) m2.entries
 have e14 : zdl (m2.changes.map zer) = zdl (zkY m2.changes) := rfl
 have e15 : zdl (m2.entries.map zhk) = zdl (zkT m2.entries) := rfl
 refine ⟨b10.1,b10.2, ?_, ?_,fun y hy => ?_, ?_,fun x hx => ?_,hp.small, ?_, ?_⟩
 ·simp only; omega
 ·simp only; omega
 ·have e := zfH (l := m2.changes) (f := zer) hy
  exact okCh_bulk (by omega)
 ·simp only; omega
 ·have e := zfH (l := m2.entries) (f := zhk) hx
  simp only [zhk,zcE,zeM] at e
  exact okB_bulk (by omega)
 ·simp only; omega
 ·simp only; omega
structure TAct where
 do_ : Int
 offset : Int
 turn : Bool
 m : zlj
abbrev actD (a : TAct) : List D := .int .i64 a.do_ :: .int .i64 a.offset :: .bool a.turn :: msgD a.m
abbrev actsE (l : List TAct) : List (List D) := l.map actD
def tyAct : List Ty := .int .i64 :: .int .i64 :: .bool :: tyMsg
structure TCas where
 f : Int
 me : Int
 topic : List UInt8
 offset : Int
 recs : List (List UInt8)
 voters : Nat
 bad : List zJ
 acts : List TAct
def tyCas : List Ty := [.int .i64, .int .i64, .str, .int .i64, .slice [.slice [.int .u8]], .int .u16, .slice zqC, .slice tyAct]
abbrev casD (c : TCas) : List D := [.int .i64 c.f, .int .i64 c.me, .str c.topic, .int .i64 c.offset, .slice (zbV c.recs), .int .u16 c.voters, .slice (zaY c.bad), .slice (actsE c.acts)]
abbrev znr (c : TCas) : List AV := (casD c).map .d
def actOk (a : TAct) : Prop := ziL a.offset ∧ ziR a.m
structure casOk (c : TCas) : Prop where
 f : ziL c.f
 me : ziL c.me
 topic : c.topic.length ≤ 1048576
 offset : ziL c.offset
 recs : c.recs.length ≤ 1048576
 each : ∀ r ∈ c.recs,r.length ≤ 1048576
 voters : c.voters < 65536
 bad : c.bad.length ≤ 1048576
 many : c.acts.length ≤ 1048576
 acts : ∀ a ∈ c.acts,actOk a
theorem dec_act {ds : List D} (h : zct tyAct ds) (hb : zcE ds ≤ 1048576) : ∃ a : TAct,ds = actD a ∧ actOk a := by
 obtain ⟨d1,ds,rfl,h1,h⟩ := zq h
 obtain ⟨d2,ds,rfl,h2,h⟩ := zq h
 obtain ⟨d3,ds,rfl,h3,hm⟩ := zq h
 clear h
 obtain ⟨a1,rfl,_⟩ := zaA h1
 obtain ⟨a2,rfl,k2⟩ := zaA h2
 obtain ⟨a3,rfl⟩ := dec_bool h3
 obtain ⟨m,rfl,hs⟩ := dec_msg hm (by simp only [zcE] at hb; omega)
 exact ⟨⟨a1,a2,a3,m⟩,rfl,k2,hs⟩
theorem dec_acts {d : D} (h : ziN (.slice tyAct) d) (hb : zeM d ≤ 1048576) : ∃ l : List TAct,d = .slice (actsE l) ∧ (∀ a ∈ l,actOk a) ∧ l.length ≤ 1048576 := by
 cases h with
 | slice _ es h1 h2 h3 =>
  simp only [zeM] at hb
  have : ∀ l : List (List D),(∀ e ∈ l,zct tyAct e) → zdl l ≤ 1048576 → ∃ as_ : List TAct,l = as_.map actD ∧ (∀ a ∈ as_,actOk a) := by
   intro l
   induction l with
   | nil => intro _ _; exact ⟨[],rfl,by simp⟩
   | cons e l ih =>
    intro hl hb
    simp only [zdl] at hb
    obtain ⟨a,rfl,ha⟩ := dec_act (hl e (.head _)) (by omega)
    obtain ⟨as_,rfl,has⟩ := ih (fun e he => hl e (.tail _ he)) (by omega)
    exact ⟨a :: as_,rfl,by simpa using ⟨ha,has⟩⟩
  obtain ⟨as_,rfl,h4⟩ := this es (fun e he => ⟨h2 e he,h3 e he⟩) (by omega)
  have b7 := zdt (f := actD) (fun a => by simp only [actD,zcE,zeM]; omega) as_
  exact ⟨as_,rfl,h4,by omega⟩
theorem dec_cas {ds : List D} (h : zct tyCas ds) (hb : zcE ds ≤ 1048576) : ∃ c,ds = casD c ∧ casOk c := by
 obtain ⟨d1,ds,rfl,h1,h⟩ := zq h
 obtain ⟨d2,ds,rfl,h2,h⟩ := zq h
 obtain ⟨d3,ds,rfl,h3,h⟩ := zq h
 obtain ⟨d4,ds,rfl,h4,h⟩ := zq h
 obtain ⟨d5,ds,rfl,h5,h⟩ := zq h
 obtain ⟨d6,ds,rfl,h6,h⟩ := zq h
 obtain ⟨d7,ds,rfl,h7,h⟩ := zq h
 obtain ⟨d8,ds,rfl,h8,h⟩ := zq h
 obtain rfl := zdR h
 obtain ⟨a1,rfl,k1⟩ := zaA h1
 obtain ⟨a2,rfl,k2⟩ := zaA h2
 obtain ⟨a3,rfl⟩ := zsQ h3
 obtain ⟨a4,rfl,k4⟩ := zaA h4
 obtain ⟨a5,rfl⟩ := dec_recs h5
 obtain ⟨a6,rfl,k6⟩ := dec_u16' h6
 obtain ⟨a7,rfl⟩ := zsR h7
 simp only [zcE] at hb
 obtain ⟨a8,rfl,k8,k9⟩ := dec_acts h8 (by omega)
 simp only [zeM] at hb
 have b5 := znu a5
 have b7 := signs_bulk a7
 refine ⟨⟨a1,a2,a3,a4,a5,a6,a7,a8⟩,rfl,k1,k2, ?_,k4, ?_,fun r hr => ?_,k6, ?_,k9,k8⟩
 ·simp only; omega
 ·have := b5.1; simp only; omega
 ·have := b5.2 r hr; omega
 ·simp only; omega
end Go.Proofs.YtfgbofkdhfjegaaGreat
