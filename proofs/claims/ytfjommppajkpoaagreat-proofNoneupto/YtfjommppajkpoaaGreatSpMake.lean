/- The proof of a record in blocks. No program in sight. -/
import Derived.Test.YtfjommppajkpoaaGreatSpChk
import Derived.Test.YtfjommppajkpoaaGreatSpUtf
import Derived.Test.YtfjommppajkpoaaGreatMk4
import Derived.Test.YtfjommppajkpoaaGreatHd2
import Derived.Test.YtfjommppajkpoaaGreatAwFrz
import Derived.Test.YtfjommppajkpoaaGreatOpC
import Derived.Test.YtfjommppajkpoaaGreatRq2
set_option linter.all false
namespace Go.AW
structure zfi where
 header : zdW
 batch : List zr
 placed : List zbe
abbrev zpG (b : zfi) : List D := [.int .i64 b.header.seq, .int .i64 b.header.prev, .int .i64 b.header.batch, .int .i64 b.header.root, .int .i64 b.header.state, .slice (zjL b.batch), .slice (zcA b.placed)]
abbrev zcC (l : List zfi) : List (List D) := l.map zpG
def isP (t : List UInt8) (o : Int) (p : zbe) : Bool := (p.topic == t) && (p.offset == o)
def plAt (t : List UInt8) (o : Int) : List zbe → Nat → Option Nat
 | [],_ => none
 | p :: r,i => if isP t o p = true then some i else plAt t o r (i + 1)
def zuO (t : List UInt8) (o : Int) : List zfi → Nat → Option (Nat × Nat)
 | [],_ => none
 | b :: r,i => match plAt t o b.placed 0 with
  | some k => some (i,k)
  | none => zuO t o r (i + 1)
def stepS (q : Option Int) (y : Int) : Bool := match q with
 | none => true
 | some x => IntKind.i64.wrap (x + 1) == y
def runF (seq : Int) : Option Int → List zfi → Option (List zdW)
 | _, [] => none
 | q,b :: r => if stepS q b.header.seq = false then none else if b.header.seq = seq then some [b.header] else (runF seq (some b.header.seq) r).map (b.header :: ·)
def ztg : zaE := ⟨[], 0, [], [], 0, 0, [],⟨0, 0, []⟩⟩
def zfw (L : List (List UInt8)) (l : List zfi) (c : zfV) (t : List UInt8) (o : Int) : Int × zaE × List (List UInt8) :=
 match zuO t o l 0 with
 | none => (4,ztg,L)
 | some (i,k) => match runF c.seq none (l.drop i) with
  | none => (7,ztg,L)
  | some hs =>
   let b := l.getD i ⟨⟨0, 0, 0, 0, 0⟩, [], []⟩
   let p := zca b.placed.length L k (b.placed.map zaz)
   (0,⟨t,o,(b.placed.getD k ⟨[], 0, []⟩).rec_,hs,k,b.placed.length,p.1,c⟩,p.2)
theorem plAt_lt {t : List UInt8} {o : Int} : ∀ {l : List zbe} {i k : Nat},plAt t o l i = some k → i ≤ k ∧ k < i + l.length
 | [],_,_,h => by simp [plAt] at h
 | p :: r,i,k,h => by
  simp only [plAt] at h
  split at h
  ·cases h; simp
  ·have := plAt_lt h; simp; omega
theorem findB_lt {t : List UInt8} {o : Int} : ∀ {l : List zfi} {j i k : Nat},zuO t o l j = some (i,k) → ∃ n b,i = j + n ∧ l[n]? = some b ∧ k < b.placed.length
 | [],_,_,_,h => by simp [zuO] at h
 | b :: r,j,i,k,h => by
  simp only [zuO] at h
  split at h
  ·rename_i k' hk
   simp only [Option.some.injEq,Prod.mk.injEq] at h
   obtain ⟨rfl,rfl⟩ := h
   exact ⟨0,b,rfl,rfl,by have := plAt_lt hk; omega⟩
  ·obtain ⟨n,b',h1,h2,h3⟩ := findB_lt h
   exact ⟨n + 1,b',by omega,by simpa using h2,h3⟩
theorem plAt_step {t : List UInt8} {o : Int} {l : List zbe} {k : Nat} {p : zbe} (h : l[k]? = some p) : plAt t o (l.drop k) k = if isP t o p = true then some k else plAt t o (l.drop (k + 1)) (k + 1) := by
 have hk : k < l.length := (List.getElem?_eq_some_iff.1 h).1
 rw [List.drop_eq_getElem_cons hk,(List.getElem?_eq_some_iff.1 h).2]
 rfl
theorem findB_step {t : List UInt8} {o : Int} {l : List zfi} {k : Nat} {b : zfi} (h : l[k]? = some b) : zuO t o (l.drop k) k = match plAt t o b.placed 0 with
  | some j => some (k,j)
  | none => zuO t o (l.drop (k + 1)) (k + 1) := by
 have hk : k < l.length := (List.getElem?_eq_some_iff.1 h).1
 rw [List.drop_eq_getElem_cons hk,(List.getElem?_eq_some_iff.1 h).2]
 rfl
theorem runF_step {seq : Int} {q : Option Int} {l : List zfi} {k : Nat} {b : zfi} (h : l[k]? = some b) : runF seq q (l.drop k) = if stepS q b.header.seq = false then none else if b.header.seq = seq then some [b.header] else (runF seq (some b.header.seq) (l.drop (k + 1))).map (b.header :: ·) := by
 have hk : k < l.length := (List.getElem?_eq_some_iff.1 h).1
 rw [List.drop_eq_getElem_cons hk,(List.getElem?_eq_some_iff.1 h).2]
 rfl
theorem runF_len {seq : Int} : ∀ {l : List zfi} {q : Option Int} {hs : List zdW},runF seq q l = some hs → hs.length ≤ l.length
 | [],_,_,h => by simp [runF] at h
 | b :: r,q,hs,h => by
  simp only [runF] at h
  split at h
  ·cases h
  ·split at h
   ·cases h; simp
   ·simp only [Option.map_eq_some_iff] at h
    obtain ⟨a,ha,rfl⟩ := h
    have := runF_len ha
    simp; omega
theorem wrap_step {x y : Int} (hx : -9223372036854775808 ≤ x ∧ x ≤ 9223372036854775807) (hy : -9223372036854775808 ≤ y ∧ y ≤ 9223372036854775807) : (IntKind.i64.wrap (y - 1) != x) = !(IntKind.i64.wrap (x + 1) == y) := by
 have e1 : IntKind.i64.wrap (y - 1) = if y = -9223372036854775808 then 9223372036854775807 else y - 1 := by
  split
  ·rename_i h; subst h; decide
  ·exact zJ (by omega) (by omega)
 have e2 : IntKind.i64.wrap (x + 1) = if x = 9223372036854775807 then -9223372036854775808 else x + 1 := by
  split
  ·rename_i h; subst h; decide
  ·exact zJ (by omega) (by omega)
 rw [e1,e2,Bool.eq_iff_iff]
 simp only [bne_iff_ne,Bool.not_eq_true',beq_eq_false_iff_ne,ne_eq]
 split <;> split <;> omega
end Go.AW

/- Contracts: the proof of a record: where it stands, which headers lead to the certificate; on both sides. -/
set_option maxRecDepth 100000
namespace Go.Proofs.YtfjommppajkpoaaGreat
open Go.AW
structure zoy (b : zfi) : Prop where
 seq : zrk b.header.seq
 len : b.placed.length ≤ 1048576
 each : ∀ p ∈ b.placed,zje p
theorem c_mkEq {σ : List zg} {b1 c1 : Nat} {t : List UInt8} {o : Int} {p : zbe} (hb : σ[b1]? = some (.box [.d (.str t)])) (hc : σ[c1]? = some (.box [.d (.int .i64 o)])) {K : KT} (hK : K (.d (.bool (isP t o p))) σ) :
  zq Tryz.prog zie [.agg [.d (.str p.topic), .d (.int .i64 p.offset), .d (.slice (bcs p.rec_))], .box b1 0, .box c1 0] σ K := by
 refine acE3 zsN fun hl => ?_
 have fin : ∀ z,isP t o p = z → K (.d (.bool z)) σ := fun z h => h ▸ hK
 clear hK
 have sb : ∀ τ,(σ ++ τ)[b1]? = _ := fun τ => zf hb
 have sc : ∀ τ,(σ ++ τ)[c1]? = _ := fun τ => zf hc
 simp only [zmp,iN,bT,bF,eN]
 cases h1 : (p.topic == t)
 ·refine gq2 (zc sb h1) ?_
  refine zK hl ?_
  exact fin _ (by rw [isP,h1]; rfl)
 ·refine gq2 (zc sb h1) ?_
  refine zK hl ?_
  exact fin _ (by rw [isP,h1]; rfl)
theorem c_idxPlaced {σ : List zg} {l : List zbe} {f : FuncId} {cap : List AV} {t : List UInt8} {o : Int} (hb : l.length ≤ 1073741824) (hf : ∀ x : zbe, ∀ K : AV → List zg → Prop,K (.d (.bool (isP t o x))) σ → zq Tryz.prog f (.agg [.d (.str x.topic), .d (.int .i64 x.offset), .d (.slice (bcs x.rec_))] :: cap) σ K)
  {K : KT} (hK : K (.d (.int .i64 (match plAt t o l 0 with | some k => (k : Int) | none => -1))) σ) : zq Tryz.prog zaL [.d (.slice (zcA l)), .fn (.func f) [] cap] σ K := by
 refine zga zdw fun hl => ?_
 have hlen : (zcA l).length = l.length := List.length_map ..
 simp only [zbx,iN,bT,bF,eN]
 refine gq2 hlen ?_
 refine zw l.length (fun k vs s => vs = [.d (.int .i64 k)] ∧ s = σ ∧ plAt t o l 0 = plAt t o (l.drop k) k) ⟨rfl,rfl,by simp⟩ ?_
 rintro k vs s hk ⟨rfl,rfl,hpf⟩
 by_cases hlt : k < l.length
 ·have hd : decide ((k : Int) < (l.length : Int)) = true := by simp; omega
  have hx : l[k]? = some l[k] := by simp [hlt]
  have hgx := zU (f := zoB) hx
  obtain ⟨x,hxe⟩ : ∃ x,l[k] = x := ⟨_,rfl⟩
  rw [hxe] at hx hgx
  rw [plAt_step hx] at hpf
  have hfx := hf x
  refine gq2 (zc hd (zc hgx hlen)) ?_
  refine hfx _ ?_
  cases h1 : isP t o x
  ·rw [if_neg (by simp [h1])] at hpf
   refine gq2 (wkc k (by omega)) ?_
   exact zap.next hlt ⟨rfl,rfl,hpf⟩
  ·rw [if_pos h1] at hpf
   rw [hpf] at hK
   refine gq1 ?_
   refine zK hl ?_
   exact hK
 ·have hd : decide ((k : Int) < (l.length : Int)) = false := by simp; omega
  rw [List.drop_eq_nil_of_le (by omega)] at hpf
  rw [hpf] at hK
  refine gq2 hd ?_
  refine zK hl ?_
  exact hK
def zpH (l : List zfi) : Nat → Option Int
 | 0 => none
 | k + 1 => (l[k]?).map fun b => b.header.seq
theorem c_pfRun {σ : List zg} {l : List zfi} {seq : Int} (hl0 : l.length ≤ 1073741824) (hb : ∀ b ∈ l,zrk b.header.seq) {K : KT} (hK : K (.tup [.d (.slice (zdf ((runF seq none l).getD []))), .d (.bool (runF seq none l).isSome)]) σ) :
  zq Tryz.prog zmC [.d (.slice (zcC l)), .d (.int .i64 seq)] σ K := by
 refine zga e_proof_run fun hl => ?_
 have fin : ∀ z : Option (List zdW),runF seq none l = z → K (.tup [.d (.slice (zdf (z.getD []))), .d (.bool z.isSome)]) σ := fun z h => h ▸ hK
 clear hK
 have hlen : (zcC l).length = l.length := List.length_map ..
 simp only [zsq,iN,bT,bF,eN,zl3]
 refine gq2 hlen ?_
 refine zaO l.length (fun k vs s => ∃ (acc : List zdW) (T : List zg),vs = [.own σ.length (zdf acc), .d (.int .i64 k)] ∧ s = σ ++ (.tok 5 acc.length :: T) ∧ acc.length = k ∧ runF seq none l = (runF seq (zpH l k) (l.drop k)).map (acc ++ ·))
  (.tok 0 [] 5 rfl (by simp) (.refl _ _)) ⟨[], [],rfl,rfl,rfl,by simp [zpH]⟩ ?_
 rintro k vs s hk ⟨acc,T,rfl,rfl,hak,hpf⟩
 have hal : (zdf acc).length = acc.length := List.length_map ..
 by_cases hlt : k < l.length
 ·have hd : decide ((k : Int) < (l.length : Int)) = true := by simp; omega
  have hx : l[k]? = some l[k] := by simp [hlt]
  have hbx := hb _ (List.getElem_mem hlt)
  have hgx := zU (f := zpG) hx
  obtain ⟨b,hbe⟩ : ∃ b,l[k] = b := ⟨_,rfl⟩
  rw [hbe] at hx hgx hbx
  rw [runF_step hx] at hpf
  obtain ⟨acc2,ha2⟩ : ∃ a,acc ++ [b.header] = a := ⟨_,rfl⟩
  have g1 : acc.length + 1 = acc2.length := by rw [← ha2]; simp
  have g2 : zdf acc ++ [[.int .i64 b.header.seq, .int .i64 b.header.prev, .int .i64 b.header.batch, .int .i64 b.header.root, .int .i64 b.header.state]] = zdf acc2 := by rw [← ha2]; simp
  have nx : ∀ τ : List zg,stepS (zpH l k) b.header.seq = true → (b.header.seq == seq) = false → zap l.length (fun k vs s => ∃ (acc : List zdW) (T : List zg),vs = [.own σ.length (zdf acc), .d (.int .i64 k)] ∧ s = σ ++ (.tok 5 acc.length :: T) ∧ acc.length = k ∧ runF seq none l = (runF seq (zpH l k) (l.drop k)).map (acc ++ ·)) k [.own σ.length (zdf acc2), .d (.int .i64 ((k : Int) + 1))] (σ ++ (.tok 5 acc2.length :: τ)) := fun τ hst h2 => by
   rw [if_neg (by simp [hst]),if_neg (by simpa using h2)] at hpf
   refine zap.next hlt ⟨acc2, τ,rfl,rfl,by omega, ?_⟩
   rw [hpf,zpH,hx,Option.map_map]
   simp only [Option.map_some, ← ha2]
   congr 1
   funext z
   simp
  have st : stepS (zpH l k) b.header.seq = true → (b.header.seq == seq) = true → K (.tup [.d (.slice (zdf acc2)), .d (.bool true)]) σ := fun hst h2 => by
   rw [if_neg (by simp [hst]),if_pos (by simpa using h2)] at hpf
   exact fin (some acc2) (by rw [hpf, ← ha2]; rfl)
  cases k with
  | zero =>
   cases h2 : (b.header.seq == seq)
   ·refine gq2 (zc hd (zc hgx (zc (show decide (((0 : Nat) : Int) > 0) = false from rfl) (zc hal (zc g1 (zc g2 h2)))))) ?_
    exact nx _ rfl h2
   ·refine gq2 (zc hd (zc hgx (zc (show decide (((0 : Nat) : Int) > 0) = false from rfl) (zc hal (zc g1 (zc g2 h2)))))) ?_
    refine zK hl ?_
    exact st rfl h2
  | succ j =>
   have hz1 : decide (((j + 1 : Nat) : Int) > 0) = true := decide_eq_true (by omega)
   have hw1 : IntKind.i64.wrap (((j + 1 : Nat) : Int) - 1) = (j : Int) := by rw [zJ (by omega) (by omega)]; omega
   have hy : l[j]? = some l[j] := by simp [show j < l.length by omega]
   have hby := hb _ (List.getElem_mem (show j < l.length by omega))
   have hgy := zU (f := zpG) hy
   obtain ⟨y,hye⟩ : ∃ y,l[j] = y := ⟨_,rfl⟩
   rw [hye] at hy hgy hby
   have hws := wrap_step hby hbx
   have hstq : stepS (zpH l (j + 1)) b.header.seq = (IntKind.i64.wrap (y.header.seq + 1) == b.header.seq) := by rw [zpH,hy]; rfl
   cases h1 : (IntKind.i64.wrap (y.header.seq + 1) == b.header.seq)
   ·rw [h1] at hws hstq
    rw [if_pos hstq] at hpf
    refine gq2 (zc hd (zc hgx (zc hgy (zc hz1 (zc hw1 hws))))) ?_
    refine zK hl ?_
    exact fin none (by rw [hpf]; rfl)
   ·rw [h1] at hws hstq
    cases h2 : (b.header.seq == seq)
    ·refine gq2 (zc hd (zc hgx (zc hgy (zc hz1 (zc hw1 (zc hws (zc hal (zc g1 (zc g2 (zc h2 (wkc (j + 1) (by omega)))))))))))) ?_
     exact nx _ hstq h2
    ·refine gq2 (zc hd (zc hgx (zc hgy (zc hz1 (zc hw1 (zc hws (zc hal (zc g1 (zc g2 h2))))))))) ?_
     refine zK hl ?_
     exact st hstq h2
 ·have hd : decide ((k : Int) < (l.length : Int)) = false := by simp; omega
  rw [List.drop_eq_nil_of_le (by omega)] at hpf
  refine gq2 hd ?_
  refine zK hl ?_
  exact fin none (by rw [hpf]; simp [runF])
end Go.Proofs.YtfjommppajkpoaaGreat

/- Requests that wait: of each client at most one. No program in sight. -/
namespace Go.AW
abbrev PQ := List (Option zr)
structure zgU (q : PQ) : Prop where
 len : q.length = 8
 at_ : ∀ (i : Nat) x,q[i]? = some (some x) → x.client = i ∧ zad [x] = 0 ∧ okO x.op
def zdx (q : PQ) : List zr := q.filterMap id
def ofF (q : PQ) (c : Int) : Option zr := if 0 ≤ c ∧ c < 8 then (q[c.toNat]?).join else none
def mayPut : Option zr → Int → Bool
 | some y,t => decide (y.time < t)
 | none,_ => true
def mayDone : Option zr → Int → Bool
 | some y,t => decide (y.time ≤ t)
 | none,_ => false
def canPut (q : PQ) (x : zr) : Bool := decide (zad [x] = 0) && mayPut (ofF q x.client) x.time
def putQ (q : PQ) (x : zr) : PQ := if canPut q x = true then q.set x.client.toNat (some x) else q
def canDone (q : PQ) (c t : Int) : Bool := mayDone (ofF q c) t
def doneQ (q : PQ) (c t : Int) : PQ := if canDone q c t = true then q.set c.toNat none else q
theorem one_ok {x : zr} (h : zad [x] = 0) : 0 ≤ x.client ∧ x.client < 8 ∧ 1 ≤ x.time ∧ x.time ≤ 9007199254740992 ∧ zbj zeL x.op = 0 ∧ zaj x = 0 ∧ zab x.key x.dig = 0 := by
 simp only [zad,List.length_singleton,zkR,errF] at h
 have h1 : ¬ (1 > 4) := by omega
 rw [if_neg h1] at h
 by_cases hr : zaj x = 0
 ·by_cases hs : zab x.key x.dig = 0
  ·unfold zaj at hr
   split at hr
   ·cases hr
   ·rename_i hc
    have hr' : zaj x = 0 := by unfold zaj; rw [if_neg hc]; exact hr
    exact ⟨by omega,by omega,by omega,by omega,hr,hr',hs⟩
  ·exfalso
   simp [hr,hs] at h
 ·exfalso
  simp [hr] at h
theorem ofF_some {q : PQ} {c : Int} {x : zr} (h : ofF q c = some x) : 0 ≤ c ∧ c < 8 ∧ q[c.toNat]? = some (some x) := by
 unfold ofF at h
 split at h
 ·rename_i hc
  refine ⟨hc.1,hc.2, ?_⟩
  cases hq : q[c.toNat]? with
  | none => rw [hq] at h; cases h
  | some o => rw [hq] at h; simp at h; rw [h]
 ·cases h
theorem zgU.get {q : PQ} (hq : zgU q) {c : Int} (h0 : 0 ≤ c) (h8 : c < 8) : q[c.toNat]? = some (ofF q c) := by
 have hl := hq.len
 have : q[c.toNat]? = some (q[c.toNat]'(by omega)) := List.getElem?_eq_getElem _
 unfold ofF
 rw [if_pos ⟨h0,h8⟩,this]
 rfl
theorem zgU.put {q : PQ} (hq : zgU q) {x : zr} (hx : okO x.op) : zgU (putQ q x) := by
 unfold putQ
 split
 ·rename_i hc
  simp only [canPut,Bool.and_eq_true,decide_eq_true_eq] at hc
  obtain ⟨h0,h8,_⟩ := one_ok hc.1
  refine ⟨by simp [hq.len],fun i y h => ?_⟩
  rw [List.getElem?_set] at h
  split at h
  ·rename_i e
   split at h
   ·simp at h; subst h
    exact ⟨by omega,hc.1,hx⟩
   ·cases h
  ·exact hq.at_ i y h
 ·exact hq
theorem zgU.done {q : PQ} (hq : zgU q) {c t : Int} : zgU (doneQ q c t) := by
 unfold doneQ
 split
 ·refine ⟨by simp [hq.len],fun i y h => ?_⟩
  rw [List.getElem?_set] at h
  split at h
  ·split at h
   ·simp at h
   ·cases h
  ·exact hq.at_ i y h
 ·exact hq
theorem znd {q : PQ} {x : zr} (h : x ∈ zdx q) : ∃ i : Nat,q[i]? = some (some x) := by
 simp only [zdx,List.mem_filterMap,id_eq,exists_eq_right] at h
 exact List.mem_iff_getElem?.1 h
end Go.AW

/- Contracts: a pool: made, asked, put into, done. -/
set_option maxRecDepth 100000
namespace Go.Proofs.YtfjommppajkpoaaGreat
open Go.AW
def digE (L : List (List UInt8)) (l : List zr) : Int := if zad l ≠ 0 then zad l else if zee L (zjM l) = 0 then 6 else 0
def digD (L : List (List UInt8)) (l : List zr) : Int := if zad l ≠ 0 then 0 else zee L (zjM l)
def ztD (L : List (List UInt8)) (l : List zr) : List (List UInt8) := if zad l ≠ 0 then L else zfe L (zjM l)
theorem c_rqrKey {σ : List zg} {c : Int} {K : KT} (hK : K (.d (.int .i64 (keyF c))) σ) : zq Tryz.prog zkE [.d (.int .i64 c)] σ K := c_rKey hK
theorem c_rqrSeal {σ : List zg} {id id2 : Nat} {L : List (List UInt8)} {G : List zI} {x : zr} (hT : σ[id]? = some (rtO L)) (hG : σ[id2]? = some (rlO G)) (h1 : id ≠ id2) (hL : zjN L) (hGl : G.length ≤ 1073741824)
  (hx : zmd x.op ≤ 20971520) {K : KT}
  (hK : K (.tup [zkv (zsA L x), .d (.int .i64 (zoz L x))]) ((σ.set id (rtO (sealL L x))).set id2 (rlO (sealG L G x)))) : zq Tryz.prog zix [.box id 0, .box id2 0,reqA x] σ K := by
 refine acE3 e_r08_Seal fun hl => ?_
 have hsz := sizes hx
 simp only [zuc,iN,bT,bF,eN,zl5,reqA]
 refine gq1 ?_
 refine ztL (x := x) hx ?_
 by_cases hc : zaj x = 0
 ·have hb : (zaj x != 0) = false := by simpa using hc
  have hrl := zqu (x := x) (by omega) hc
  refine gq2 hb ?_
  refine c_rqrKey ?_
  rw [show zfK x = zqN x from if_pos hc]
  refine gq1 ?_
  refine zjC (zf hT) (by omega) hL.len ?_
  rw [zbz hT]
  simp only [sealL,sealG,hc,ne_eq,not_true_eq_false,if_false] at hK
  have e1 : zoz L x = zeJ (keyF x.client) (zee L (zqN x)) := by rw [zoz,if_neg (by simpa using hc)]
  rw [e1] at hK
  have hl1 : zdY σ.length (σ.set id (rtO (zfe L (zqN x)))) := hl.setO (zfn _ _)
  have hs1 : (σ.set id (rtO (zfe L (zqN x)))).length = σ.length := by simp
  have hG1 : (σ.set id (rtO (zfe L (zqN x))))[id2]? = some (rlO G) := by rw [List.getElem?_set_ne h1]; exact hG
  obtain ⟨S1,hS1⟩ : ∃ S1, σ.set id (rtO (zfe L (zqN x))) = S1 := ⟨_,rfl⟩
  rw [hS1] at hK hG1 hs1 hl1 ⊢
  have r1 : σ.length = S1.length := hs1.symm
  refine gq2 r1 ?_
  refine c_rgSign (zf hG1) hGl ?_
  rw [zbz hG1]
  obtain ⟨N,hN⟩ : ∃ N,zeJ (keyF x.client) (zee L (zqN x)) = N := ⟨_,rfl⟩
  have hl2 : zdY σ.length (S1.set id2 (rlO (zgI G (keyF x.client) (zee L (zqN x))))) := hl1.setO (rlO_low _ _)
  have hs2 : (S1.set id2 (rlO (zgI G (keyF x.client) (zee L (zqN x))))).length = S1.length := by simp
  obtain ⟨S2,hS2⟩ : ∃ S2,S1.set id2 (rlO (zgI G (keyF x.client) (zee L (zqN x)))) = S2 := ⟨_,rfl⟩
  rw [hS2] at hK hs2 hl2 ⊢
  have r2 : σ.length = S2.length := by rw [r1]; exact hs2.symm
  have r3 : S1.length = S2.length := hs2.symm
  rw [r2] at hl2
  rw [hN] at hK ⊢
  simp only [zut]
  by_cases hN0 : N = 0
  ·have hq : (N != 0) = false := by simpa using hN0
   have e2 : zsA L x = ⟨x.client,x.time,x.op,keyF x.client,zee L (zqN x)⟩ := by rw [zsA,if_pos (by rw [e1,hN,hN0])]
   have e3 : signR (keyF x.client) (zee L (zqN x)) = ⟨keyF x.client,zee L (zqN x)⟩ := by rw [signR,if_pos (by rw [hN,hN0])]
   rw [e2] at hK
   rw [e3]
   refine gq2 (zc hq (zc r2 r3)) ?_
   rw [hN0] at hK
   refine zcY rfl ?_ hl2 ?_
   ·simp [zcO,dmT,dm,dm1,zbY,zbf,zdZ]
   ·exact hK
  ·have hq : (N != 0) = true := by simpa using hN0
   have e2 : zsA L x = noSg := by rw [zsA,if_neg (by rw [e1,hN]; exact hN0)]
   rw [e2] at hK
   rw [show signR (keyF x.client) (zee L (zqN x)) = ⟨0, 0⟩ from by rw [signR,if_neg (by rw [hN]; exact hN0)]]
   refine gq2 (zc hq (zc r2 r3)) ?_
   refine zcY rfl ?_ hl2 ?_
   ·simp [zcO,dmT,dm,dm1,zbY,zbf,zdZ]
   ·exact hK
 ·have hb : (zaj x != 0) = true := by simpa using hc
  have e1 : zoz L x = zaj x := if_pos hc
  have e2 : zsA L x = noSg := by rw [zsA,if_neg (by rw [e1]; exact hc)]
  rw [e1,e2,sealL,sealG,if_pos hc,if_pos hc,zby hT,zby hG] at hK
  refine gq2 hb ?_
  refine zK hl ?_
  exact hK
theorem c_rqrDigest {σ : List zg} {id : Nat} {L : List (List UInt8)} {l : List zr} (hT : σ[id]? = some (rtO L)) (hL : zjN L)
  (hx : ∀ s ∈ l,zmd s.op ≤ 20971520) (hll : l.length ≤ 1073741824) {K : KT} (hK : K (.tup [.d (.int .i64 (digD L l)), .d (.int .i64 (digE L l))]) (σ.set id (rtO (ztD L l)))) :
  zq Tryz.prog zkF [.box id 0, .d (.slice (zjL l))] σ K := by
 refine zga e_r08_Digest fun hl => ?_
 have hok : okB l := ⟨hll,fun s hs => sizes (hx s hs)⟩
 simp only [zpM,iN,bT,bF,eN]
 refine gq1 ?_
 refine znR hok ?_
 by_cases hc : zad l = 0
 ·have hq : (zad l != 0) = false := by simpa using hc
  have hbl := zmj hx
  have hc' : ¬ zad l ≠ 0 := by simpa using hc
  rw [show digD L l = zee L (zjM l) from if_neg hc',show ztD L l = zfe L (zjM l) from if_neg hc',show digE L l = if zee L (zjM l) = 0 then 6 else 0 from if_neg hc'] at hK
  refine gq2 hq ?_
  refine c_rPutBatch (b := []) (by simp) hx hll ?_
  rw [List.nil_append,show zew l = zjM l from if_pos hc] at *
  refine gq1 ?_
  refine zjC hT (by omega) hL.len ?_
  have hl1 : zdY σ.length (σ.set id (rtO (zfe L (zjM l)))) := hl.setO (zfn _ _)
  by_cases h0 : zee L (zjM l) = 0
  ·rw [if_pos h0] at hK
   rw [h0] at hK ⊢
   refine gq5 ?_
   refine zck (by simp) ?_ hl1 ?_
   ·simp [zcO,dmT,dm,dm1,zbY,zbf]
   ·exact hK
  ·rw [if_neg h0] at hK
   have h0' : (zee L (zjM l) == 0) = false := by simpa using h0
   refine gq2 h0' ?_
   refine zck (by simp) ?_ hl1 ?_
   ·simp [zcO,dmT,dm,dm1,zbY,zbf]
   ·exact hK
 ·have hq : (zad l != 0) = true := by simpa using hc
  rw [digD,digE,ztD,if_pos hc,if_pos hc,if_pos hc,zby hT] at hK
  refine gq2 hq ?_
  refine zK hl ?_
  exact hK
end Go.Proofs.YtfjommppajkpoaaGreat
