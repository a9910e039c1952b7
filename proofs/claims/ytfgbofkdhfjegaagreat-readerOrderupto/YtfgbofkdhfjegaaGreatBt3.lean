/- Contract: what chapter 23 begins with. -/
import Derived.Test.YtfgbofkdhfjegaaGreatBv1
import Derived.Test.YtfgbofkdhfjegaaGreatHd1
import Derived.Test.YtfgbofkdhfjegaaGreatSpUtf
import Derived.Test.YtfgbofkdhfjegaaGreatCk3
import Derived.Test.YtfgbofkdhfjegaaGreatOpC
import Derived.Test.YtfgbofkdhfjegaaGreatOp1
set_option linter.all false
set_option maxRecDepth 100000
namespace Go.Proofs.YtfgbofkdhfjegaaGreat
open Go.AW
abbrev zero25 : List AV := [.exact [], .d (.int .i64 0), .d (.int .i64 0), .d (.int .i64 0), .d (.int .i64 0), .d (.int .i64 0), .d (.int .i64 0), .d (.int .i64 0), .d (.int .i64 0), .d (.int .i64 0), .d (.int .i64 0), .d (.int .i64 0), .d (.int .i64 0), .d (.int .i64 0), .d (.int .i64 0), .d (.int .i64 0), .d (.int .i64 0), .d (.int .i64 0), .d (.int .i64 0), .d (.int .i64 0), .d (.int .i64 0), .d (.int .i64 0), .d (.int .i64 0), .d (.int .i64 0), .d (.int .i64 0)]
end Go.Proofs.YtfgbofkdhfjegaaGreat

/- Messages: which may be. No program in sight. -/
namespace Go.AW
structure zlj where
 kind : Int
 src : Int
 view : Int
 seq : Int
 dig : Int
 client : Int
 time : Int
 rerr : Int
 roff : Int
 batch : List zp
 cert : zfj
 changes : List zgg
 entries : List zmn
 state : List UInt8
 topic : List UInt8
 offset : Int
 proof : zca
 key : Int
 sdig : Int
def zCert : zfj := ⟨0, 0, []⟩
def zlP : zca := ⟨[], 0, [], [], 0, 0, [],zCert⟩
def zfP : zlj := ⟨0, 0, 0, 0, 0, 0, 0, 0, 0, [],zCert, [], [], [], [], 0,zlP, 0, 0⟩
abbrev msgL (m : zlj) : List AV :=
 [.d (.int .i64 m.kind), .d (.int .i64 m.src), .d (.int .i64 m.view), .d (.int .i64 m.seq), .d (.int .i64 m.dig), .d (.int .i64 m.client), .d (.int .i64 m.time), .d (.int .i64 m.rerr), .d (.int .i64 m.roff), .d (.slice (zdf m.batch)),
  .d (.int .i64 m.cert.seq), .d (.int .i64 m.cert.dig), .d (.slice (zaY m.cert.signs)), .d (.slice (zkY m.changes)), .d (.slice (zkT m.entries)), .d (.slice (bcs m.state)), .d (.str m.topic), .d (.int .i64 m.offset),
  .d (.str m.proof.topic), .d (.int .i64 m.proof.offset), .d (.slice (bcs m.proof.rec_)), .d (.slice (zio m.proof.headers)), .d (.int .i64 m.proof.index), .d (.int .i64 m.proof.count), .d (.slice (zdB m.proof.path)), .d (.int .i64 m.proof.cert.seq), .d (.int .i64 m.proof.cert.dig), .d (.slice (zaY m.proof.cert.signs)), .d (.int .i64 m.key), .d (.int .i64 m.sdig)]
abbrev msgA (m : zlj) : AV := .agg (msgL m)
abbrev msgO (m : zlj) : zh := .box (msgL m)
def brkE (n : Int) : Int := inE n 0 12
def prepErr (p : zow) : List Int := ziM p.view :: zvE p.seq :: zvE p.dig :: zak p.fkey p.fdig :: (zmE p.signs ++ [zY p.batch])
def bodyErr (c : zgg) : List Int := zvE c.view :: brkE c.src :: (zhg c.cert ++ (inE c.above.length 0 8 :: (c.above.map prepErr).flatten))
def zsV (c : zgg) : List Int := bodyErr c ++ [zak c.key c.dig]
def entryErr (x : zmn) : List Int := [ziM x.view,zvE x.seq,zY x.batch,zak x.key x.dig]
def voteErr (m : zlj) : List Int := [brkE m.src,ziM m.view,zvE m.seq,zvE m.dig]
def newvErr (m : zlj) : List Int := brkE m.src :: zvE m.view :: inE m.changes.length 0 13 :: ((m.changes.map zsV).flatten ++ (inE m.entries.length 0 8 :: (m.entries.map entryErr).flatten))
def ownK (k : Int) : Bool := decide (2 ≤ k ∧ k ≤ 9 ∧ k ≠ 7)
def partsErr (m : zlj) : List Int :=
 if m.kind = 1 then [inE m.batch.length 1 1,zY m.batch]
 else if m.kind = 2 then voteErr m ++ [zY m.batch]
 else if m.kind = 3 ∨ m.kind = 4 then voteErr m
 else if m.kind = 5 then [brkE m.src,ziM m.view,inE m.client 0 7,ziM m.time,inE m.rerr 0 65536,ziM m.roff]
 else if m.kind = 6 then [brkE m.src,zvE m.seq,zvE m.dig]
 else if m.kind = 7 then inE m.changes.length 1 1 :: (m.changes.map fun c => zsV c ++ [if c.src ≠ m.src ∨ c.view ≠ m.view then 100 else 0]).flatten
 else if m.kind = 8 then newvErr m
 else if m.kind = 9 then [brkE m.src,ziM m.seq]
 else if m.kind = 10 then brkE m.src :: (zhg m.cert ++ [inE m.state.length 0 262144])
 else if m.kind = 11 then [inE m.client 0 7,ztL m.topic,ziM m.offset]
 else if m.kind = 12 then brkE m.src :: ziU m.proof
 else [100]
def msgErr (m : zlj) : List Int := partsErr m ++ (if ownK m.kind = true then [zak m.key m.sdig] else [])
def bareF (m : zlj) : zlj :=
 if m.kind = 1 then { zfP with kind := m.kind,batch := m.batch }
 else if m.kind = 2 then { zfP with kind := m.kind,src := m.src,view := m.view,seq := m.seq,dig := m.dig,batch := m.batch,key := m.key,sdig := m.sdig }
 else if m.kind = 3 ∨ m.kind = 4 then { zfP with kind := m.kind,src := m.src,view := m.view,seq := m.seq,dig := m.dig,key := m.key,sdig := m.sdig }
 else if m.kind = 5 then { zfP with kind := m.kind,src := m.src,view := m.view,client := m.client,time := m.time,rerr := m.rerr,roff := m.roff,key := m.key,sdig := m.sdig }
 else if m.kind = 6 then { zfP with kind := m.kind,src := m.src,seq := m.seq,dig := m.dig,key := m.key,sdig := m.sdig }
 else if m.kind = 7 then { zfP with kind := m.kind,src := m.src,view := m.view,changes := m.changes }
 else if m.kind = 8 then { zfP with kind := m.kind,src := m.src,view := m.view,changes := m.changes,entries := m.entries,key := m.key,sdig := m.sdig }
 else if m.kind = 9 then { zfP with kind := m.kind,src := m.src,seq := m.seq,key := m.key,sdig := m.sdig }
 else if m.kind = 10 then { zfP with kind := m.kind,src := m.src,cert := m.cert,state := m.state }
 else if m.kind = 11 then { zfP with kind := m.kind,client := m.client,topic := m.topic,offset := m.offset }
 else if m.kind = 12 then { zfP with kind := m.kind,src := m.src,proof := m.proof }
 else { zfP with kind := m.kind,src := m.src }
deriving instance DecidableEq for zca
deriving instance DecidableEq for zlj
def zon (m : zlj) : Int := if zcD (msgErr m) ≠ 0 then zcD (msgErr m) else if m = bareF m then 0 else 100
end Go.AW

/- A client that reads. No program in sight. -/
namespace Go.Proofs.YtfgbofkdhfjegaaGreat
open Go.AW
abbrev msgD (m : zlj) : List D :=
 [.int .i64 m.kind, .int .i64 m.src, .int .i64 m.view, .int .i64 m.seq, .int .i64 m.dig, .int .i64 m.client, .int .i64 m.time, .int .i64 m.rerr, .int .i64 m.roff, .slice (zdf m.batch),
  .int .i64 m.cert.seq, .int .i64 m.cert.dig, .slice (zaY m.cert.signs), .slice (zkY m.changes), .slice (zkT m.entries), .slice (bcs m.state), .str m.topic, .int .i64 m.offset,
  .str m.proof.topic, .int .i64 m.proof.offset, .slice (bcs m.proof.rec_), .slice (zio m.proof.headers), .int .i64 m.proof.index, .int .i64 m.proof.count, .slice (zdB m.proof.path), .int .i64 m.proof.cert.seq, .int .i64 m.proof.cert.dig, .slice (zaY m.proof.cert.signs), .int .i64 m.key, .int .i64 m.sdig]
abbrev outD (o : Int × zlj) : List D := .int .i64 o.1 :: msgD o.2
abbrev outsE (l : List (Int × zlj)) : List (List D) := l.map outD
structure zmW where
 f : Int
 me : Int
 topic : List UInt8
 next : Int
 L : List zaX
 broker : Int
 wait : Int
def zeH (f me : Int) (topic : List UInt8) (offset : Int) : Int :=
 if zdD f ≠ 0 then zdD f else if me < 0 ∨ me ≥ 8 then 1 else if zdZ topic = false then 61 else if offset < 0 ∨ offset ≥ 9007199254740992 then 1 else 0
def zmY (f me : Int) (topic : List UInt8) (offset : Int) : zmW := ⟨f,me,topic,offset, [], 0, 0⟩
def askM (r : zmW) : zlj := { zfP with kind := 11,client := r.me,topic := r.topic,offset := r.next }
def askR (r : zmW) : List (Int × zlj) := if r.next = 9007199254740992 then [] else [(r.broker,askM r)]
def ztH (r : zmW) : zmW := if r.wait + 1 < 4 then { r with wait := r.wait + 1 } else { r with wait := 0,broker := (r.broker + 1).tmod (zdQ 3 r.f) }
def tickO (r : zmW) : List (Int × zlj) := if r.wait + 1 < 4 then [] else askR (ztH r)
def zfD (L : List (List UInt8)) (G : List zJ) (r : zmW) (m : zlj) : Int :=
 if m.kind ≠ 12 ∨ zon m ≠ 0 ∨ m.proof.topic ≠ r.topic ∨ m.proof.offset ≠ r.next ∨ r.next = 9007199254740992 then 250 else verPF L G r.f m.proof
def zfa (r : zmW) (m : zlj) : zmW := { r with L := r.L ++ [⟨r.topic,r.next,m.proof.rec_⟩],next := r.next + 1,wait := 0 }
def takeR (L : List (List UInt8)) (G : List zJ) (r : zmW) (m : zlj) : zmW := if zfD L G r m = 0 then zfa r m else r
structure RdrI (n : Nat) (r : zmW) : Prop where
 f : 1 ≤ r.f ∧ r.f ≤ 4
 next : 0 ≤ r.next ∧ r.next ≤ 9007199254740992
 broker : 0 ≤ r.broker ∧ r.broker < 13
 wait : 0 ≤ r.wait ∧ r.wait < 4
 topic : r.topic.length ≤ 1048576
 len : r.L.length ≤ n
 recs : ∀ p ∈ r.L,p.rec_.length ≤ 16777216 ∧ p.topic = r.topic
theorem checkF_0 {f : Int} : zdD f = 0 ↔ 1 ≤ f ∧ f ≤ 4 := by
 unfold zdD; split <;> omega
theorem newRE_0 {f me : Int} {topic : List UInt8} {offset : Int} (h : zeH f me topic offset = 0) : (1 ≤ f ∧ f ≤ 4) ∧ 0 ≤ offset ∧ offset < 9007199254740992 := by
 unfold zeH at h
 split at h
 ·rename_i e; exact absurd h e
 rename_i e
 split at h
 ·simp at h
 split at h
 ·simp at h
 split at h
 ·simp at h
 ·exact ⟨checkF_0.1 (Classical.not_not.1 e),by omega,by omega⟩
theorem newR_I {f me : Int} {topic : List UInt8} {offset : Int} (h : zeH f me topic offset = 0) (ht : topic.length ≤ 1048576) : RdrI 0 (zmY f me topic offset) := by
 have := newRE_0 h
 exact ⟨this.1,⟨this.2.1,by simp only [zmY]; omega⟩,by simp [zmY],by simp [zmY],ht,by simp [zmY],by simp [zmY]⟩
theorem RdrI.mono {n m : Nat} {r : zmW} (h : RdrI n r) (hn : n ≤ m) : RdrI m r := ⟨h.f,h.next,h.broker,h.wait,h.topic,by have := h.len; omega,h.recs⟩
theorem tick_I {n : Nat} {r : zmW} (h : RdrI n r) : RdrI n (ztH r) := by
 have hw := h.wait
 unfold ztH
 split
 ·exact ⟨h.f,h.next,h.broker,by simp only; omega,h.topic,h.len,h.recs⟩
 ·refine ⟨h.f,h.next, ?_,by simp,h.topic,h.len,h.recs⟩
  have hf := h.f
  have e : zdQ 3 r.f = 3 * r.f + 1 := by rw [zdQ,if_neg (by omega)]
  have hb := h.broker
  simp only [e]
  have h1 := Int.tmod_lt_of_pos (r.broker + 1) (show 0 < 3 * r.f + 1 by omega)
  have h2 := Int.tmod_nonneg (3 * r.f + 1) (show 0 ≤ r.broker + 1 by omega)
  omega
theorem take_I {n : Nat} {L : List (List UInt8)} {G : List zJ} {r : zmW} {m : zlj} (h : RdrI n r) (hm : m.proof.rec_.length ≤ 16777216) : RdrI (n + 1) (takeR L G r m) := by
 have hl := h.len
 unfold takeR
 split
 ·rename_i e
  have hn : r.next ≠ 9007199254740992 := fun e2 => by
   rw [zfD,if_pos (.inr (.inr (.inr (.inr e2))))] at e; simp at e
  have h2 := h.next
  refine ⟨h.f,⟨by simp only [zfa]; omega,by simp only [zfa]; omega⟩,h.broker,by simp [zfa],h.topic,by simp [zfa]; omega,fun p hp => ?_⟩
  simp only [zfa,List.mem_append,List.mem_singleton] at hp
  rcases hp with hp | rfl
  ·exact h.recs p hp
  ·exact ⟨hm,rfl⟩
 ·exact h.mono (by omega)
theorem c_Same1 {σ : List zh} {a b : zp} (ha : a.op.recs.length ≤ 1073741824) (hb : b.op.recs.length ≤ 1073741824) {K : KT} (hK : K (.d (.bool (decide (a = b)))) σ) : zr Tryz.prog zfl [zkw a,zkw b] σ K := by
 refine zfJ zro fun hl => ?_
 have e : a = b ↔ a.key = b.key ∧ a.dig = b.dig ∧ a.client = b.client ∧ a.time = b.time ∧ a.op = b.op := by cases a; cases b; simp; constructor <;> (intro h; simp_all)
 have fin : ∀ z,decide (a = b) = z → K (.d (.bool z)) σ := fun z h => h ▸ hK
 clear hK
 simp only [zlk,iN,bT,bF,eN,zkw]
 cases h1 : (a.key == b.key)
 ·refine zrm h1 ?_
  refine zV hl ?_
  refine fin _ (decide_eq_false fun h => ?_)
  have := (e.1 h).1; simp [this] at h1
 cases h2 : (a.dig == b.dig)
 ·refine zrm (zbc h1 h2) ?_
  refine zV hl ?_
  refine fin _ (decide_eq_false fun h => ?_)
  have := (e.1 h).2.1; simp [this] at h2
 cases h3 : (a.client == b.client)
 ·refine zrm (zbc h1 (zbc h2 h3)) ?_
  refine zV hl ?_
  refine fin _ (decide_eq_false fun h => ?_)
  have := (e.1 h).2.2.1; simp [this] at h3
 cases h4 : (a.time == b.time)
 ·refine zrm (zbc h1 (zbc h2 (zbc h3 h4))) ?_
  refine zV hl ?_
  refine fin _ (decide_eq_false fun h => ?_)
  have := (e.1 h).2.2.2.1; simp [this] at h4
 refine zrm (zbc h1 (zbc h2 (zbc h3 h4))) ?_
 refine c_Same (a := a.op) (b := b.op) ha hb ?_
 refine ziq ?_
 refine zV hl ?_
 refine fin _ ?_
 rw [Bool.eq_iff_iff,decide_eq_true_eq,decide_eq_true_eq,e]
 simp only [beq_iff_eq] at h1 h2 h3 h4
 simp [h1,h2,h3,h4]
theorem zpo {σ : List zh} {a b : List zp} (ha : zoD a) (hb : zoD b) {K : KT} (hK : K (.d (.bool (decide (a = b)))) σ) :
  zr Tryz.prog zat [.d (.slice (zdf a)), .d (.slice (zdf b)), .fn (.func zfl) [] []] σ K := by
 refine acE3 zcj fun hl => ?_
 have fin : ∀ z,decide (a = b) = z → K (.d (.bool z)) σ := fun z h => h ▸ hK
 clear hK
 obtain ⟨ha1,ha2⟩ := ha
 obtain ⟨hb1,hb2⟩ := hb
 simp only [zaS,iN,bT,bF,eN,zl8]
 cases hl0 : ((a.length : Int) != (b.length : Int))
 rotate_left
 ·refine zbK hl0 ?_
  refine zV hl ?_
  refine fin _ (decide_eq_false fun h => ?_)
  rw [h] at hl0; simp at hl0
 have hl2 : a.length = b.length := by simp at hl0; omega
 refine zbK hl0 ?_
 refine zt a.length (fun k vs s => vs = [.d (.int .i64 k)] ∧ (∃ T,s = σ ++ T) ∧ a.take k = b.take k) ⟨rfl,⟨[],by simp⟩,by simp⟩ ?_
 rintro k vs s hk ⟨rfl,⟨T,rfl⟩,htk⟩
 by_cases hlt : k < a.length
 ·have hd : decide ((k : Int) < (a.length : Int)) = true := by simp; omega
  have hx : a[k]? = some a[k] := by simp [hlt]
  have hy : b[k]? = some (b[k]'(by omega)) := List.getElem?_eq_getElem _
  have hgx := zR (f := zch) hx
  have hgy := zR (f := zch) hy
  have hxs := (ha2 _ (List.getElem_mem hlt)).1
  have hys := (hb2 _ (List.getElem_mem (show k < b.length by omega))).1
  obtain ⟨x,hxe⟩ : ∃ x,a[k] = x := ⟨_,rfl⟩
  obtain ⟨y,hye⟩ : ∃ y,(b[k]'(by omega)) = y := ⟨_,rfl⟩
  rw [hxe] at hx hgx hxs
  rw [hye] at hy hgy hys
  obtain ⟨S,hS⟩ : ∃ S, σ ++ T = S := ⟨_,rfl⟩
  rw [hS]
  refine zrm (zbc hd (zbc hgx hgy)) ?_
  refine c_Same1 (a := x) (b := y) hxs hys ?_
  cases he : decide (x = y)
  ·refine zbK hd ?_
   rw [← hS,List.append_assoc]
   refine zV hl ?_
   refine fin _ (decide_eq_false fun h => ?_)
   subst h
   rw [hx] at hy
   have := Option.some.inj hy
   simp [this] at he
  ·refine zbK (wk1 k (by omega)) ?_
   exact zaF.next hlt ⟨rfl,⟨_,by rw [← hS,List.append_assoc]⟩,zcY hx hy htk (by simpa using he)⟩
 ·have hd : decide ((k : Int) < (a.length : Int)) = false := by simp; omega
  refine zbK hd ?_
  refine zV hl ?_
  exact fin _ (decide_eq_true (zet hl2 (k := k) (by omega) htk))
theorem zsY {σ : List zh} {a b : List zp} (ha : zoD a) (hb : zoD b) {K : KT} (hK : K (.d (.bool (decide (a = b)))) σ) : zr Tryz.prog zfc [.d (.slice (zdf a)), .d (.slice (zdf b))] σ K := by
 refine zfJ ztQ fun hl => ?_
 simp only [znx,iN,bT,bF,eN]
 refine ziq ?_
 refine zpo ha hb ?_
 refine ziq ?_
 refine zV hl ?_
 exact hK
end Go.Proofs.YtfgbofkdhfjegaaGreat
