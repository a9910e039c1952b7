/- The proof of a record in blocks. No program in sight. -/
import Derived.Test.YtncpaekiidpchaaGreatHd2
import Derived.Test.YtncpaekiidpchaaGreatSpUtf
import Derived.Test.YtncpaekiidpchaaGreatMk5
import Derived.Test.YtncpaekiidpchaaGreatCk1
import Derived.Test.YtncpaekiidpchaaGreatAwFrz
import Derived.Test.YtncpaekiidpchaaGreatOpC
import Derived.Test.YtncpaekiidpchaaGreatRq2
set_option linter.all false
namespace Go.AW
structure zaM where
 header : zcF
 batch : List zn
 placed : List zaI
abbrev znK (b : zaM) : List D := [.int .i64 b.header.seq, .int .i64 b.header.prev, .int .i64 b.header.batch, .int .i64 b.header.root, .int .i64 b.header.state, .slice (ziS b.batch), .slice (zci b.placed)]
abbrev zcn (l : List zaM) : List (List D) := l.map znK
def isP (t : List UInt8) (o : Int) (p : zaI) : Bool := (p.topic == t) && (p.offset == o)
def plAt (t : List UInt8) (o : Int) : List zaI → Nat → Option Nat
 | [],_ => none
 | p :: r,i => if isP t o p = true then some i else plAt t o r (i + 1)
def znp (t : List UInt8) (o : Int) : List zaM → Nat → Option (Nat × Nat)
 | [],_ => none
 | b :: r,i => match plAt t o b.placed 0 with
  | some k => some (i,k)
  | none => znp t o r (i + 1)
def stepS (q : Option Int) (y : Int) : Bool := match q with
 | none => true
 | some x => IntKind.i64.wrap (x + 1) == y
def zqu (seq : Int) : Option Int → List zaM → Option (List zcF)
 | _, [] => none
 | q,b :: r => if stepS q b.header.seq = false then none else if b.header.seq = seq then some [b.header] else (zqu seq (some b.header.seq) r).map (b.header :: ·)
def zss : zaU := ⟨[], 0, [], [], 0, 0, [],⟨0, 0, []⟩⟩
def zdL (L : List (List UInt8)) (l : List zaM) (c : zfH) (t : List UInt8) (o : Int) : Int × zaU × List (List UInt8) :=
 match znp t o l 0 with
 | none => (4,zss,L)
 | some (i,k) => match zqu c.seq none (l.drop i) with
  | none => (7,zss,L)
  | some hs =>
   let b := l.getD i ⟨⟨0, 0, 0, 0, 0⟩, [], []⟩
   let p := zaD b.placed.length L k (b.placed.map zam)
   (0,⟨t,o,(b.placed.getD k ⟨[], 0, []⟩).rec_,hs,k,b.placed.length,p.1,c⟩,p.2)
theorem ztV {t : List UInt8} {o : Int} : ∀ {l : List zaI} {i k : Nat},plAt t o l i = some k → i ≤ k ∧ k < i + l.length
 | [],_,_,h => by simp [plAt] at h
 | p :: r,i,k,h => by
  simp only [plAt] at h
  split at h
  ·cases h; simp
  ·have := ztV h; simp; omega
theorem findB_lt {t : List UInt8} {o : Int} : ∀ {l : List zaM} {j i k : Nat},znp t o l j = some (i,k) → ∃ n b,i = j + n ∧ l[n]? = some b ∧ k < b.placed.length
 | [],_,_,_,h => by simp [znp] at h
 | b :: r,j,i,k,h => by
  simp only [znp] at h
  split at h
  ·rename_i k' hk
   simp only [Option.some.injEq,Prod.mk.injEq] at h
   obtain ⟨rfl,rfl⟩ := h
   exact ⟨0,b,rfl,rfl,by have := ztV hk; omega⟩
  ·obtain ⟨n,b',h1,h2,h3⟩ := findB_lt h
   exact ⟨n + 1,b',by omega,by simpa using h2,h3⟩
theorem plAt_step {t : List UInt8} {o : Int} {l : List zaI} {k : Nat} {p : zaI} (h : l[k]? = some p) : plAt t o (l.drop k) k = if isP t o p = true then some k else plAt t o (l.drop (k + 1)) (k + 1) := by
 have hk : k < l.length := (List.getElem?_eq_some_iff.1 h).1
 rw [List.drop_eq_getElem_cons hk,(List.getElem?_eq_some_iff.1 h).2]
 rfl
theorem findB_step {t : List UInt8} {o : Int} {l : List zaM} {k : Nat} {b : zaM} (h : l[k]? = some b) : znp t o (l.drop k) k = match plAt t o b.placed 0 with
  | some j => some (k,j)
  | none => znp t o (l.drop (k + 1)) (k + 1) := by
 have hk : k < l.length := (List.getElem?_eq_some_iff.1 h).1
 rw [List.drop_eq_getElem_cons hk,(List.getElem?_eq_some_iff.1 h).2]
 rfl
theorem runF_step {seq : Int} {q : Option Int} {l : List zaM} {k : Nat} {b : zaM} (h : l[k]? = some b) : zqu seq q (l.drop k) = if stepS q b.header.seq = false then none else if b.header.seq = seq then some [b.header] else (zqu seq (some b.header.seq) (l.drop (k + 1))).map (b.header :: ·) := by
 have hk : k < l.length := (List.getElem?_eq_some_iff.1 h).1
 rw [List.drop_eq_getElem_cons hk,(List.getElem?_eq_some_iff.1 h).2]
 rfl
theorem runF_len {seq : Int} : ∀ {l : List zaM} {q : Option Int} {hs : List zcF},zqu seq q l = some hs → hs.length ≤ l.length
 | [],_,_,h => by simp [zqu] at h
 | b :: r,q,hs,h => by
  simp only [zqu] at h
  split at h
  ·cases h
  ·split at h
   ·cases h; simp
   ·simp only [Option.map_eq_some_iff] at h
    obtain ⟨a,ha,rfl⟩ := h
    have := runF_len ha
    simp; omega
theorem wrap_step {x y : Int} (hx : -9223372036854775808 ≤ x ∧ x ≤ 9223372036854775807) (hy : -9223372036854775808 ≤ y ∧ y ≤ 9223372036854775807) : (IntKind.i64.wrap (y - 1) != x) = !(IntKind.i64.wrap (x + 1) == y) := by
 have e1 : IntKind.i64.wrap (y - 1) = if y = -9223372036854775808 then 9223372036854775807 else y - 1 := by
  split
  ·rename_i h; subst h; decide
  ·exact zX (by omega) (by omega)
 have e2 : IntKind.i64.wrap (x + 1) = if x = 9223372036854775807 then -9223372036854775808 else x + 1 := by
  split
  ·rename_i h; subst h; decide
  ·exact zX (by omega) (by omega)
 rw [e1,e2,Bool.eq_iff_iff]
 simp only [bne_iff_ne,Bool.not_eq_true',beq_eq_false_iff_ne,ne_eq]
 split <;> split <;> omega
end Go.AW

/- Contracts: the proof of a record: where it stands, which headers lead to the certificate; on both sides. -/
set_option maxRecDepth 100000
namespace Go.Proofs.YtncpaekiidpchaaGreat
open Go.AW
structure zoq (b : zaM) : Prop where
 seq : zmP b.header.seq
 len : b.placed.length ≤ 1048576
 each : ∀ p ∈ b.placed,zjh p
theorem c_mkEq {σ : List zg} {b1 c1 : Nat} {t : List UInt8} {o : Int} {p : zaI} (hb : σ[b1]? = some (.box [.d (.str t)])) (hc : σ[c1]? = some (.box [.d (.int .i64 o)])) {K : KT} (hK : K (.d (.bool (isP t o p))) σ) :
  zD Tryz.prog zih [.agg [.d (.str p.topic), .d (.int .i64 p.offset), .d (.slice (bcs p.rec_))], .box b1 0, .box c1 0] σ K := by
 refine zj zlU.is rfl fun hl _ => zlU.goes ?_
 have fin : ∀ z,isP t o p = z → K (.d (.bool z)) σ := fun z h => h ▸ hK
 clear hK
 have sb : ∀ τ,(σ ++ τ)[b1]? = _ := fun τ => zf hb
 have sc : ∀ τ,(σ ++ τ)[c1]? = _ := fun τ => zf hc
 simp only [zmi,iN,bT,bF,eN]
 cases h1 : (p.topic == t)
 ·(repeat' first | refine gq2 (zd sb h1) ?_ | with_reducible first | exact ⟨⟩ | refine zh ?_ | fail)
  (first | refine zaq hl ?_ | refine zap hl ?_)
  exact fin _ (by rw [isP,h1]; rfl)
 ·(repeat' first | refine gq2 (zd sb h1) ?_ | with_reducible first | exact ⟨⟩ | refine zh ?_ | fail)
  (first | refine zaq hl ?_ | refine zap hl ?_)
  exact fin _ (by rw [isP,h1]; rfl)
theorem c_idxPlaced {σ : List zg} {l : List zaI} {f : FuncId} {cap : List AV} {t : List UInt8} {o : Int} (hb : l.length ≤ 1073741824) (hf : ∀ x : zaI, ∀ K : AV → List zg → Prop,K (.d (.bool (isP t o x))) σ → zD Tryz.prog f (.agg [.d (.str x.topic), .d (.int .i64 x.offset), .d (.slice (bcs x.rec_))] :: cap) σ K)
  {K : KT} (hK : K (.d (.int .i64 (match plAt t o l 0 with | some k => (k : Int) | none => -1))) σ) : zD Tryz.prog zaN [.d (.slice (zci l)), .fn (.func f) [] cap] σ K := by
 refine zj zbG.is rfl fun hl _ => zbG.goes ?_
 have hlen : (zci l).length = l.length := List.length_map ..
 simp only [zbH,iN,bT,bF,eN]
 (repeat' first | refine gq2 hlen ?_ | with_reducible first | exact ⟨⟩ | refine zh ?_ | fail)
 refine zG l.length (fun k vs s => vs = [.d (.int .i64 k)] ∧ s = σ ∧ plAt t o l 0 = plAt t o (l.drop k) k) ⟨rfl,rfl,by simp⟩ ?_
 rintro k vs s hk ⟨rfl,rfl,hpf⟩
 by_cases hlt : k < l.length
 ·have hd : decide ((k : Int) < (l.length : Int)) = true := by simp; omega
  have hx : l[k]? = some l[k] := by simp [hlt]
  have hgx := zae (f := zkq) hx
  obtain ⟨x,hxe⟩ : ∃ x,l[k] = x := ⟨_,rfl⟩
  rw [hxe] at hx hgx
  rw [plAt_step hx] at hpf
  have hfx := hf x
  (repeat' first | refine gq2 (zd hd (zd hgx hlen)) ?_ | with_reducible first | exact ⟨⟩ | refine zh ?_ | fail)
  refine hfx _ ?_
  cases h1 : isP t o x
  ·rw [if_neg (by simp [h1])] at hpf
   (repeat' first | refine gq2 (wkc k (by omega)) ?_ | with_reducible first | exact ⟨⟩ | refine zh ?_ | fail)
   exact zav.next hlt ⟨rfl,rfl,hpf⟩
  ·rw [if_pos h1] at hpf
   rw [hpf] at hK
   (repeat' first | refine gq1 ?_ | with_reducible first | exact ⟨⟩ | refine zh ?_ | fail)
   (first | refine zaq hl ?_ | refine zap hl ?_)
   exact hK
 ·have hd : decide ((k : Int) < (l.length : Int)) = false := by simp; omega
  rw [List.drop_eq_nil_of_le (by omega)] at hpf
  rw [hpf] at hK
  (repeat' first | refine gq2 hd ?_ | with_reducible first | exact ⟨⟩ | refine zh ?_ | fail)
  (first | refine zaq hl ?_ | refine zap hl ?_)
  exact hK
def zpF (l : List zaM) : Nat → Option Int
 | 0 => none
 | k + 1 => (l[k]?).map fun b => b.header.seq
theorem c_pfRun {σ : List zg} {l : List zaM} {seq : Int} (hl0 : l.length ≤ 1073741824) (hb : ∀ b ∈ l,zmP b.header.seq) {K : KT} (hK : K (.tup [.d (.slice (zeM ((zqu seq none l).getD []))), .d (.bool (zqu seq none l).isSome)]) σ) :
  zD Tryz.prog zmy [.d (.slice (zcn l)), .d (.int .i64 seq)] σ K := by
 refine zj zrh.is rfl fun hl _ => zrh.goes ?_
 have fin : ∀ z : Option (List zcF),zqu seq none l = z → K (.tup [.d (.slice (zeM (z.getD []))), .d (.bool z.isSome)]) σ := fun z h => h ▸ hK
 clear hK
 have hlen : (zcn l).length = l.length := List.length_map ..
 simp only [zrM,iN,bT,bF,eN]
 (repeat' first | refine gq2 hlen ?_ | with_reducible first | exact ⟨⟩ | refine zh ?_ | fail)
 refine zaT l.length (fun k vs s => ∃ (acc : List zcF) (T : List zg),vs = [.own σ.length (zeM acc), .d (.int .i64 k)] ∧ s = σ ++ (.tok 5 acc.length :: T) ∧ acc.length = k ∧ zqu seq none l = (zqu seq (zpF l k) (l.drop k)).map (acc ++ ·))
  (.tok 0 [] 5 rfl (by simp) (.refl _ _)) ⟨[], [],rfl,rfl,rfl,by simp [zpF]⟩ ?_
 rintro k vs s hk ⟨acc,T,rfl,rfl,hak,hpf⟩
 have hal : (zeM acc).length = acc.length := List.length_map ..
 by_cases hlt : k < l.length
 ·have hd : decide ((k : Int) < (l.length : Int)) = true := by simp; omega
  have hx : l[k]? = some l[k] := by simp [hlt]
  have hbx := hb _ (List.getElem_mem hlt)
  have hgx := zae (f := znK) hx
  obtain ⟨b,hbe⟩ : ∃ b,l[k] = b := ⟨_,rfl⟩
  rw [hbe] at hx hgx hbx
  rw [runF_step hx] at hpf
  obtain ⟨acc2,ha2⟩ : ∃ a,acc ++ [b.header] = a := ⟨_,rfl⟩
  have g1 : acc.length + 1 = acc2.length := by rw [← ha2]; simp
  have g2 : zeM acc ++ [[.int .i64 b.header.seq, .int .i64 b.header.prev, .int .i64 b.header.batch, .int .i64 b.header.root, .int .i64 b.header.state]] = zeM acc2 := by rw [← ha2]; simp
  have nx : ∀ τ : List zg,stepS (zpF l k) b.header.seq = true → (b.header.seq == seq) = false → zav l.length (fun k vs s => ∃ (acc : List zcF) (T : List zg),vs = [.own σ.length (zeM acc), .d (.int .i64 k)] ∧ s = σ ++ (.tok 5 acc.length :: T) ∧ acc.length = k ∧ zqu seq none l = (zqu seq (zpF l k) (l.drop k)).map (acc ++ ·)) k [.own σ.length (zeM acc2), .d (.int .i64 ((k : Int) + 1))] (σ ++ (.tok 5 acc2.length :: τ)) := fun τ hst h2 => by
   rw [if_neg (by simp [hst]),if_neg (by simpa using h2)] at hpf
   refine zav.next hlt ⟨acc2, τ,rfl,rfl,by omega, ?_⟩
   rw [hpf,zpF,hx,Option.map_map]
   simp only [Option.map_some, ← ha2]
   congr 1
   funext z
   simp
  have st : stepS (zpF l k) b.header.seq = true → (b.header.seq == seq) = true → K (.tup [.d (.slice (zeM acc2)), .d (.bool true)]) σ := fun hst h2 => by
   rw [if_neg (by simp [hst]),if_pos (by simpa using h2)] at hpf
   exact fin (some acc2) (by rw [hpf, ← ha2]; rfl)
  cases k with
  | zero =>
   cases h2 : (b.header.seq == seq)
   ·(repeat' first | refine gq2 (zd hd (zd hgx (zd (show decide (((0 : Nat) : Int) > 0) = false from rfl) (zd hal (zd g1 (zd g2 h2)))))) ?_ | with_reducible first | exact ⟨⟩ | refine zh ?_ | fail)
    exact nx _ rfl h2
   ·(repeat' first | refine gq2 (zd hd (zd hgx (zd (show decide (((0 : Nat) : Int) > 0) = false from rfl) (zd hal (zd g1 (zd g2 h2)))))) ?_ | with_reducible first | exact ⟨⟩ | refine zh ?_ | fail)
    (first | refine zaq hl ?_ | refine zap hl ?_)
    exact st rfl h2
  | succ j =>
   have hz1 : decide (((j + 1 : Nat) : Int) > 0) = true := decide_eq_true (by omega)
   have hw1 : IntKind.i64.wrap (((j + 1 : Nat) : Int) - 1) = (j : Int) := by rw [zX (by omega) (by omega)]; omega
   have hy : l[j]? = some l[j] := by simp [show j < l.length by omega]
   have hby := hb _ (List.getElem_mem (show j < l.length by omega))
   have hgy := zae (f := znK) hy
   obtain ⟨y,hye⟩ : ∃ y,l[j] = y := ⟨_,rfl⟩
   rw [hye] at hy hgy hby
   have hws := wrap_step hby hbx
   have hstq : stepS (zpF l (j + 1)) b.header.seq = (IntKind.i64.wrap (y.header.seq + 1) == b.header.seq) := by rw [zpF,hy]; rfl
   cases h1 : (IntKind.i64.wrap (y.header.seq + 1) == b.header.seq)
   ·rw [h1] at hws hstq
    rw [if_pos hstq] at hpf
    (repeat' first | refine gq2 (zd hd (zd hgx (zd hgy (zd hz1 (zd hw1 hws))))) ?_ | with_reducible first | exact ⟨⟩ | refine zh ?_ | fail)
    (first | refine zaq hl ?_ | refine zap hl ?_)
    exact fin none (by rw [hpf]; rfl)
   ·rw [h1] at hws hstq
    cases h2 : (b.header.seq == seq)
    ·(repeat' first | refine gq2 (zd hd (zd hgx (zd hgy (zd hz1 (zd hw1 (zd hws (zd hal (zd g1 (zd g2 (zd h2 (wkc (j + 1) (by omega)))))))))))) ?_ | with_reducible first | exact ⟨⟩ | refine zh ?_ | fail)
     exact nx _ hstq h2
    ·(repeat' first | refine gq2 (zd hd (zd hgx (zd hgy (zd hz1 (zd hw1 (zd hws (zd hal (zd g1 (zd g2 h2))))))))) ?_ | with_reducible first | exact ⟨⟩ | refine zh ?_ | fail)
     (first | refine zaq hl ?_ | refine zap hl ?_)
     exact st hstq h2
 ·have hd : decide ((k : Int) < (l.length : Int)) = false := by simp; omega
  rw [List.drop_eq_nil_of_le (by omega)] at hpf
  (repeat' first | refine gq2 hd ?_ | with_reducible first | exact ⟨⟩ | refine zh ?_ | fail)
  (first | refine zaq hl ?_ | refine zap hl ?_)
  exact fin none (by rw [hpf]; simp [zqu])
end Go.Proofs.YtncpaekiidpchaaGreat

/- Requests that wait: of each client at most one. No program in sight. -/
namespace Go.AW
abbrev PQ := List (Option zn)
structure zgw (q : PQ) : Prop where
 len : q.length = 8
 at_ : ∀ (i : Nat) x,q[i]? = some (some x) → x.client = i ∧ zaj [x] = 0 ∧ okO x.op
def zdx (q : PQ) : List zn := q.filterMap id
def ofF (q : PQ) (c : Int) : Option zn := if 0 ≤ c ∧ c < 8 then (q[c.toNat]?).join else none
def mayPut : Option zn → Int → Bool
 | some y,t => decide (y.time < t)
 | none,_ => true
def mayDone : Option zn → Int → Bool
 | some y,t => decide (y.time ≤ t)
 | none,_ => false
def canPut (q : PQ) (x : zn) : Bool := decide (zaj [x] = 0) && mayPut (ofF q x.client) x.time
def putQ (q : PQ) (x : zn) : PQ := if canPut q x = true then q.set x.client.toNat (some x) else q
def canDone (q : PQ) (c t : Int) : Bool := mayDone (ofF q c) t
def doneQ (q : PQ) (c t : Int) : PQ := if canDone q c t = true then q.set c.toNat none else q
theorem one_ok {x : zn} (h : zaj [x] = 0) : 0 ≤ x.client ∧ x.client < 8 ∧ 1 ≤ x.time ∧ x.time ≤ 9007199254740992 ∧ zaQ zdA x.op = 0 ∧ zas x = 0 ∧ zar x.key x.dig = 0 := by
 simp only [zaj,List.length_singleton,zkH,errF] at h
 have h1 : ¬ (1 > 4) := by omega
 rw [if_neg h1] at h
 by_cases hr : zas x = 0
 ·by_cases hs : zar x.key x.dig = 0
  ·unfold zas at hr
   split at hr
   ·cases hr
   ·rename_i hc
    have hr' : zas x = 0 := by unfold zas; rw [if_neg hc]; exact hr
    exact ⟨by omega,by omega,by omega,by omega,hr,hr',hs⟩
  ·exfalso
   simp [hr,hs] at h
 ·exfalso
  simp [hr] at h
theorem ofF_some {q : PQ} {c : Int} {x : zn} (h : ofF q c = some x) : 0 ≤ c ∧ c < 8 ∧ q[c.toNat]? = some (some x) := by
 unfold ofF at h
 split at h
 ·rename_i hc
  refine ⟨hc.1,hc.2, ?_⟩
  cases hq : q[c.toNat]? with
  | none => rw [hq] at h; cases h
  | some o => rw [hq] at h; simp at h; rw [h]
 ·cases h
theorem zgw.get {q : PQ} (hq : zgw q) {c : Int} (h0 : 0 ≤ c) (h8 : c < 8) : q[c.toNat]? = some (ofF q c) := by
 have hl := hq.len
 have : q[c.toNat]? = some (q[c.toNat]'(by omega)) := List.getElem?_eq_getElem _
 unfold ofF
 rw [if_pos ⟨h0,h8⟩,this]
 rfl
theorem zgw.put {q : PQ} (hq : zgw q) {x : zn} (hx : okO x.op) : zgw (putQ q x) := by
 unfold putQ
 split
 ·rename_i hc
  simp only [canPut,Bool.and_eq_true,decide_eq_true_eq] at hc
  obtain ⟨h0,h8,_⟩ := one_ok hc.1
  refine ⟨by simp [hq.len],fun i y h => ?_⟩
  rw [List.getElem?_set] at h
  split at h
  ·rename_i e
   split at h
   ·simp at h; subst h
    exact ⟨by omega,hc.1,hx⟩
   ·cases h
  ·exact hq.at_ i y h
 ·exact hq
theorem zgw.done {q : PQ} (hq : zgw q) {c t : Int} : zgw (doneQ q c t) := by
 unfold doneQ
 split
 ·refine ⟨by simp [hq.len],fun i y h => ?_⟩
  rw [List.getElem?_set] at h
  split at h
  ·split at h
   ·simp at h
   ·cases h
  ·exact hq.at_ i y h
 ·exact hq
theorem zmR {q : PQ} {x : zn} (h : x ∈ zdx q) : ∃ i : Nat,q[i]? = some (some x) := by
 simp only [zdx,List.mem_filterMap,id_eq,exists_eq_right] at h
 exact List.mem_iff_getElem?.1 h
end Go.AW

/- Contracts: a pool: made, asked, put into, done. -/
set_option maxRecDepth 100000
namespace Go.Proofs.YtncpaekiidpchaaGreat
open Go.AW
end Go.Proofs.YtncpaekiidpchaaGreat

/- Contracts: a pool: what waits. -/
set_option maxRecDepth 100000
namespace Go.Proofs.YtncpaekiidpchaaGreat
open Go.AW
end Go.Proofs.YtncpaekiidpchaaGreat

/- Contracts: what comes next out of a pool. -/
set_option maxRecDepth 100000
namespace Go.Proofs.YtncpaekiidpchaaGreat
open Go.AW
end Go.Proofs.YtncpaekiidpchaaGreat

/- Contracts: whether what was sealed is valid; a batch's number. -/
set_option maxRecDepth 100000
namespace Go.Proofs.YtncpaekiidpchaaGreat
open Go.AW
def digE (L : List (List UInt8)) (l : List zn) : Int := if zaj l ≠ 0 then zaj l else if zcI L (ziT l) = 0 then 6 else 0
def digD (L : List (List UInt8)) (l : List zn) : Int := if zaj l ≠ 0 then 0 else zcI L (ziT l)
def zjD (L : List (List UInt8)) (l : List zn) : List (List UInt8) := if zaj l ≠ 0 then L else zdH L (ziT l)
end Go.Proofs.YtncpaekiidpchaaGreat

/- Contracts: what the document says of sealed requests. -/
set_option maxRecDepth 100000
namespace Go.Proofs.YtncpaekiidpchaaGreat
open Go.AW
theorem c_rqrKey {σ : List zg} {c : Int} {K : KT} (hK : K (.d (.int .i64 (keyF c))) σ) : zD Tryz.prog zkv [.d (.int .i64 c)] σ K := c_rKey hK
theorem c_rqrSeal {σ : List zg} {id id2 : Nat} {L : List (List UInt8)} {G : List zJ} {x : zn} (hT : σ[id]? = some (rtO L)) (hG : σ[id2]? = some (rlO G)) (h1 : id ≠ id2) (hL : zkk L) (hGl : G.length ≤ 1073741824)
  (hx : zjK x.op ≤ 20971520) {K : KT}
  (hK : K (.tup [zor (zrT L x), .d (.int .i64 (zos L x))]) ((σ.set id (rtO (sealL L x))).set id2 (rlO (zrU L G x)))) : zD Tryz.prog ziy [.box id 0, .box id2 0,reqA x] σ K := by
 refine zj zsT.is rfl fun hl _ => zsT.goes ?_
 have hsz := sizes hx
 simp only [ztx,iN,bT,bF,eN,reqA]
 (repeat' first | refine gq1 ?_ | with_reducible first | exact ⟨⟩ | refine zh ?_ | fail)
 refine ztk (x := x) hx ?_
 by_cases hc : zas x = 0
 ·have hb : (zas x != 0) = false := by simpa using hc
  have hrl := zqb (x := x) (by omega) hc
  (repeat' first | refine gq2 hb ?_ | with_reducible first | exact ⟨⟩ | refine zh ?_ | fail)
  refine c_rqrKey ?_
  rw [show zfx x = zqw x from if_pos hc]
  (repeat' first | refine gq1 ?_ | with_reducible first | exact ⟨⟩ | refine zh ?_ | fail)
  refine zjF (zf hT) (by omega) hL.len ?_
  rw [zbI hT]
  simp only [sealL,zrU,hc,ne_eq,not_true_eq_false,if_false] at hK
  have e1 : zos L x = zdu (keyF x.client) (zcI L (zqw x)) := by rw [zos,if_neg (by simpa using hc)]
  rw [e1] at hK
  have hl1 : zfc σ.length (σ.set id (rtO (zdH L (zqw x)))) := hl.setO (zfh _ _)
  have hs1 : (σ.set id (rtO (zdH L (zqw x)))).length = σ.length := by simp
  have hG1 : (σ.set id (rtO (zdH L (zqw x))))[id2]? = some (rlO G) := by rw [List.getElem?_set_ne h1]; exact hG
  obtain ⟨S1,hS1⟩ : ∃ S1, σ.set id (rtO (zdH L (zqw x))) = S1 := ⟨_,rfl⟩
  rw [hS1] at hK hG1 hs1 hl1 ⊢
  have r1 : σ.length = S1.length := hs1.symm
  (repeat' first | refine gq2 r1 ?_ | with_reducible first | exact ⟨⟩ | refine zh ?_ | fail)
  refine c_rgSign (zf hG1) hGl ?_
  rw [zbI hG1]
  obtain ⟨N,hN⟩ : ∃ N,zdu (keyF x.client) (zcI L (zqw x)) = N := ⟨_,rfl⟩
  have hl2 : zfc σ.length (S1.set id2 (rlO (zeL G (keyF x.client) (zcI L (zqw x))))) := hl1.setO (rlO_low _ _)
  have hs2 : (S1.set id2 (rlO (zeL G (keyF x.client) (zcI L (zqw x))))).length = S1.length := by simp
  obtain ⟨S2,hS2⟩ : ∃ S2,S1.set id2 (rlO (zeL G (keyF x.client) (zcI L (zqw x)))) = S2 := ⟨_,rfl⟩
  rw [hS2] at hK hs2 hl2 ⊢
  have r2 : σ.length = S2.length := by rw [r1]; exact hs2.symm
  have r3 : S1.length = S2.length := hs2.symm
  rw [r2] at hl2
  rw [hN] at hK ⊢
  simp only [ztP]
  by_cases hN0 : N = 0
  ·have hq : (N != 0) = false := by simpa using hN0
   have e2 : zrT L x = ⟨x.client,x.time,x.op,keyF x.client,zcI L (zqw x)⟩ := by rw [zrT,if_pos (by rw [e1,hN,hN0])]
   have e3 : signR (keyF x.client) (zcI L (zqw x)) = ⟨keyF x.client,zcI L (zqw x)⟩ := by rw [signR,if_pos (by rw [hN,hN0])]
   rw [e2] at hK
   rw [e3]
   (repeat' first | refine gq2 (zd hq (zd r2 r3)) ?_ | with_reducible first | exact ⟨⟩ | refine zh ?_ | fail)
   rw [hN0] at hK
   refine zdc rfl ?_ hl2 ?_
   ·simp [zdh,dmT,dm,dm1,zca,zbv,zeB]
   ·exact hK
  ·have hq : (N != 0) = true := by simpa using hN0
   have e2 : zrT L x = noSg := by rw [zrT,if_neg (by rw [e1,hN]; exact hN0)]
   rw [e2] at hK
   rw [show signR (keyF x.client) (zcI L (zqw x)) = ⟨0, 0⟩ from by rw [signR,if_neg (by rw [hN]; exact hN0)]]
   (repeat' first | refine gq2 (zd hq (zd r2 r3)) ?_ | with_reducible first | exact ⟨⟩ | refine zh ?_ | fail)
   refine zdc rfl ?_ hl2 ?_
   ·simp [zdh,dmT,dm,dm1,zca,zbv,zeB]
   ·exact hK
 ·have hb : (zas x != 0) = true := by simpa using hc
  have e1 : zos L x = zas x := if_pos hc
  have e2 : zrT L x = noSg := by rw [zrT,if_neg (by rw [e1]; exact hc)]
  rw [e1,e2,sealL,zrU,if_pos hc,if_pos hc,zbC hT,zbC hG] at hK
  (repeat' first | refine gq2 hb ?_ | with_reducible first | exact ⟨⟩ | refine zh ?_ | fail)
  (first | refine zaq hl ?_ | refine zap hl ?_)
  exact hK
theorem gq36 {P Q : Prop} (h : Q) (e : P = Q := by simp -dsimp only [↓zey, ↓zau, ↓zbj, ↓zeA, ↓zes, ↓zeq, ↓zet, ↓zer, ↓zbo, ↓zbk, ↓zbp, ↓zbl, ↓zeu, ↓zbi, ↓zbq, ↓zbm, ↓zbr, ↓zbn, ↓zep, ↓zew, ↓zbh, ↓zbs, ↓zeg, ↓zef, ↓zeo,iN,bT,bF,eN, ↓zcS, ↓unC, ↓zW, ↓zK, ↓zL, ↓zN, ↓zZ, ↓zaw, ↓zbT, ↓zag, ↓zbu, ↓zP, ↓zq, ↓zo, ↓zby, ↓zl, ↓zaf, ↓zH, ↓zaC, ↓zaG, ↓ze, ↓zC, ↓zt, ↓zw, ↓zan, ↓zcC, ↓zdb, ↓zal, ↓zat, ↓zaF, ↓zaP, ↓zaW, ↓zu, ↓zai, ↓zM, ↓zA, ↓zaa,zdi,zbd,zba,unA,zdk,bnd,zdw,zac,zS,zdy,dm,dm1,zB,zak,zdP,zdO,zQ,Q0,Q1,Q2,Q3,Q4,Q5,zR,zr,zy,zO,zI,Q6,Q7,Q8,Q9,Q10,Q11,Q12,Q13,Q14,Nat.reduceAdd,Q15,Int.reduceToNat,Q16,Q17,Q18,Q19,Q20,reduceIte,Q21,Q22,zE,rep,zV,zdG,toD,zab,Q23,Q24,Q25,Q26,Q27,Q28,Nat.reduceLeDiff,Q29,Nat.reduceSub,Q30,Q31,Q32,sc,Q33,Q34,Q35,Q36,Q37,Q26,Q38,Q39,zgH,zgE,zgB,zgI,zcf,zgF,zgC,zgG,zgD,zce,zcg,zgJ,zgK,Bool.not_true,Bool.not_false,List.length_map,beq_self_eq_true,bne_self_eq_false]; rfl) : P := e.mpr h
theorem c_rqrDigest {σ : List zg} {id : Nat} {L : List (List UInt8)} {l : List zn} (hT : σ[id]? = some (rtO L)) (hL : zkk L)
  (hx : ∀ s ∈ l,zjK s.op ≤ 20971520) (hll : l.length ≤ 1073741824) {K : KT} (hK : K (.tup [.d (.int .i64 (digD L l)), .d (.int .i64 (digE L l))]) (σ.set id (rtO (zjD L l)))) :
  zD Tryz.prog zkw [.box id 0, .d (.slice (ziS l))] σ K := by
 refine zj zpt.is rfl fun hl _ => zpt.goes ?_
 have hok : okB l := ⟨hll,fun s hs => sizes (hx s hs)⟩
 simp only [zpI,iN,bT,bF,eN]
 (repeat' first | refine gq1 ?_ | with_reducible first | exact ⟨⟩ | refine zh ?_ | fail)
 refine znI hok ?_
 by_cases hc : zaj l = 0
 ·have hq : (zaj l != 0) = false := by simpa using hc
  have hbl := zmc hx
  have hc' : ¬ zaj l ≠ 0 := by simpa using hc
  rw [show digD L l = zcI L (ziT l) from if_neg hc',show zjD L l = zdH L (ziT l) from if_neg hc',show digE L l = if zcI L (ziT l) = 0 then 6 else 0 from if_neg hc'] at hK
  (repeat' first | refine gq2 hq ?_ | with_reducible first | exact ⟨⟩ | refine zh ?_ | fail)
  refine c_rPutBatch (b := []) (by simp) hx hll ?_
  rw [List.nil_append,show zez l = ziT l from if_pos hc] at *
  (repeat' first | refine gq1 ?_ | with_reducible first | exact ⟨⟩ | refine zh ?_ | fail)
  refine zjF hT (by omega) hL.len ?_
  have hl1 : zfc σ.length (σ.set id (rtO (zdH L (ziT l)))) := hl.setO (zfh _ _)
  by_cases h0 : zcI L (ziT l) = 0
  ·rw [if_pos h0] at hK
   rw [h0] at hK ⊢
   (repeat' first | refine gq36 ?_ | with_reducible first | exact ⟨⟩ | refine zh ?_ | fail)
   refine zcj (by simp) ?_ hl1 ?_
   ·simp [zdh,dmT,dm,dm1,zca,zbv]
   ·exact hK
  ·rw [if_neg h0] at hK
   have h0' : (zcI L (ziT l) == 0) = false := by simpa using h0
   (repeat' first | refine gq2 h0' ?_ | with_reducible first | exact ⟨⟩ | refine zh ?_ | fail)
   refine zcj (by simp) ?_ hl1 ?_
   ·simp [zdh,dmT,dm,dm1,zca,zbv]
   ·exact hK
 ·have hq : (zaj l != 0) = true := by simpa using hc
  rw [digD,digE,zjD,if_pos hc,if_pos hc,if_pos hc,zbC hT] at hK
  (repeat' first | refine gq2 hq ?_ | with_reducible first | exact ⟨⟩ | refine zh ?_ | fail)
  (first | refine zaq hl ?_ | refine zap hl ?_)
  exact hK
end Go.Proofs.YtncpaekiidpchaaGreat
