/- The proof of a record in blocks. No program in sight. -/
import Derived.Test.YtncpaekiidpchaaGreatHd2
import Derived.Test.YtncpaekiidpchaaGreatSpUtf
import Derived.Test.YtncpaekiidpchaaGreatMk5
import Derived.Test.YtncpaekiidpchaaGreatCk1
import Derived.Test.YtncpaekiidpchaaGreatAwFrz
import Derived.Test.YtncpaekiidpchaaGreatRc1
set_option linter.all false
namespace Go.AW
structure zdy where
 header : zec
 batch : List zA
 placed : List zbw
abbrev zfU (b : zdy) : List D := [.int .i64 b.header.seq, .int .i64 b.header.prev, .int .i64 b.header.batch, .int .i64 b.header.root, .int .i64 b.header.state, .slice (zfV b.batch), .slice (zch b.placed)]
abbrev zbv (l : List zdy) : List (List D) := l.map zfU
def isP (t : List UInt8) (o : Int) (p : zbw) : Bool := (p.topic == t) && (p.offset == o)
def plAt (t : List UInt8) (o : Int) : List zbw → Nat → Option Nat
 | [],_ => none
 | p :: r,i => if isP t o p = true then some i else plAt t o r (i + 1)
def znq (t : List UInt8) (o : Int) : List zdy → Nat → Option (Nat × Nat)
 | [],_ => none
 | b :: r,i => match plAt t o b.placed 0 with
  | some k => some (i,k)
  | none => znq t o r (i + 1)
def zqC (q : Option Int) (y : Int) : Bool := match q with
 | none => true
 | some x => IntKind.i64.wrap (x + 1) == y
def zov (seq : Int) : Option Int → List zdy → Option (List zec)
 | _, [] => none
 | q,b :: r => if zqC q b.header.seq = false then none else if b.header.seq = seq then some [b.header] else (zov seq (some b.header.seq) r).map (b.header :: ·)
def zqn : zbe := ⟨[], 0, [], [], 0, 0, [],⟨0, 0, []⟩⟩
def zdM (L : List (List UInt8)) (l : List zdy) (c : zfF) (t : List UInt8) (o : Int) : Int × zbe × List (List UInt8) :=
 match znq t o l 0 with
 | none => (4,zqn,L)
 | some (i,k) => match zov c.seq none (l.drop i) with
  | none => (7,zqn,L)
  | some hs =>
   let b := l.getD i ⟨⟨0, 0, 0, 0, 0⟩, [], []⟩
   let p := zbx b.placed.length L k (b.placed.map zaF)
   (0,⟨t,o,(b.placed.getD k ⟨[], 0, []⟩).rec_,hs,k,b.placed.length,p.1,c⟩,p.2)
theorem plAt_lt {t : List UInt8} {o : Int} : ∀ {l : List zbw} {i k : Nat},plAt t o l i = some k → i ≤ k ∧ k < i + l.length
 | [],_,_,h => by simp [plAt] at h
 | p :: r,i,k,h => by
  simp only [plAt] at h
  split at h
  ·cases h; simp
  ·have := plAt_lt h; simp; omega
theorem zuG {t : List UInt8} {o : Int} : ∀ {l : List zdy} {j i k : Nat},znq t o l j = some (i,k) → ∃ n b,i = j + n ∧ l[n]? = some b ∧ k < b.placed.length
 | [],_,_,_,h => by simp [znq] at h
 | b :: r,j,i,k,h => by
  simp only [znq] at h
  split at h
  ·rename_i k' hk
   simp only [Option.some.injEq,Prod.mk.injEq] at h
   obtain ⟨rfl,rfl⟩ := h
   exact ⟨0,b,rfl,rfl,by have := plAt_lt hk; omega⟩
  ·obtain ⟨n,b',h1,h2,h3⟩ := zuG h
   exact ⟨n + 1,b',by omega,by simpa using h2,h3⟩
theorem plAt_step {t : List UInt8} {o : Int} {l : List zbw} {k : Nat} {p : zbw} (h : l[k]? = some p) : plAt t o (l.drop k) k = if isP t o p = true then some k else plAt t o (l.drop (k + 1)) (k + 1) := by
 have hk : k < l.length := (List.getElem?_eq_some_iff.1 h).1
 rw [List.drop_eq_getElem_cons hk,(List.getElem?_eq_some_iff.1 h).2]
 rfl
theorem zsT {t : List UInt8} {o : Int} {l : List zdy} {k : Nat} {b : zdy} (h : l[k]? = some b) : znq t o (l.drop k) k = match plAt t o b.placed 0 with
  | some j => some (k,j)
  | none => znq t o (l.drop (k + 1)) (k + 1) := by
 have hk : k < l.length := (List.getElem?_eq_some_iff.1 h).1
 rw [List.drop_eq_getElem_cons hk,(List.getElem?_eq_some_iff.1 h).2]
 rfl
theorem runF_step {seq : Int} {q : Option Int} {l : List zdy} {k : Nat} {b : zdy} (h : l[k]? = some b) : zov seq q (l.drop k) = if zqC q b.header.seq = false then none else if b.header.seq = seq then some [b.header] else (zov seq (some b.header.seq) (l.drop (k + 1))).map (b.header :: ·) := by
 have hk : k < l.length := (List.getElem?_eq_some_iff.1 h).1
 rw [List.drop_eq_getElem_cons hk,(List.getElem?_eq_some_iff.1 h).2]
 rfl
theorem runF_len {seq : Int} : ∀ {l : List zdy} {q : Option Int} {hs : List zec},zov seq q l = some hs → hs.length ≤ l.length
 | [],_,_,h => by simp [zov] at h
 | b :: r,q,hs,h => by
  simp only [zov] at h
  split at h
  ·cases h
  ·split at h
   ·cases h; simp
   ·simp only [Option.map_eq_some_iff] at h
    obtain ⟨a,ha,rfl⟩ := h
    have := runF_len ha
    simp; omega
theorem wrap_step {x y : Int} (hx : -9223372036854775808 ≤ x ∧ x ≤ 9223372036854775807) (hy : -9223372036854775808 ≤ y ∧ y ≤ 9223372036854775807) : (IntKind.i64.wrap (y - 1) != x) = !(IntKind.i64.wrap (x + 1) == y) := by
 have e1 : IntKind.i64.wrap (y - 1) = if y = -9223372036854775808 then 9223372036854775807 else y - 1 := by
  split
  ·rename_i h; subst h; decide
  ·exact zai (by omega) (by omega)
 have e2 : IntKind.i64.wrap (x + 1) = if x = 9223372036854775807 then -9223372036854775808 else x + 1 := by
  split
  ·rename_i h; subst h; decide
  ·exact zai (by omega) (by omega)
 rw [e1,e2,Bool.eq_iff_iff]
 simp only [bne_iff_ne,Bool.not_eq_true',beq_eq_false_iff_ne,ne_eq]
 split <;> split <;> omega
end Go.AW

/- Contracts: the proof of a record: where it stands, which headers lead to the certificate; on both sides. -/
set_option maxRecDepth 100000
namespace Go.Proofs.YtncpaekiidpchaaGreat
open Go.AW
structure zgb (b : zdy) : Prop where
 seq : zmK b.header.seq
 len : b.placed.length ≤ 1048576
 each : ∀ p ∈ b.placed,zjk p
theorem c_mkEq {σ : List zf} {b1 c1 : Nat} {t : List UInt8} {o : Int} {p : zbw} (hb : σ[b1]? = some (.box [.d (.str t)])) (hc : σ[c1]? = some (.box [.d (.int .i64 o)])) {K : AV → List zf → Prop} (hK : K (.d (.bool (isP t o p))) σ) :
  zL Tryz.prog zii [.agg [.d (.str p.topic), .d (.int .i64 p.offset), .d (.slice (bcs p.rec_))], .box b1 0, .box c1 0] σ K := by
 refine zj zme.is rfl fun hl _ => zme.goes ?_
 have fin : ∀ z,isP t o p = z → K (.d (.bool z)) σ := fun z h => h ▸ hK
 clear hK
 have sb : ∀ τ,(σ ++ τ)[b1]? = _ := fun τ => zg hb
 have sc : ∀ τ,(σ ++ τ)[c1]? = _ := fun τ => zg hc
 simp only [zms,iN,bT,bF,eN]
 cases h1 : (p.topic == t)
 ·(repeat' first | refine gq2 (zd sb h1) ?_ | with_reducible first | exact ⟨⟩ | refine zh ?_ | fail)
  (first | refine zao hl ?_ | refine zan hl ?_)
  exact fin _ (by rw [isP,h1]; rfl)
 ·(repeat' first | refine gq2 (zd sb h1) ?_ | with_reducible first | exact ⟨⟩ | refine zh ?_ | fail)
  (first | refine zao hl ?_ | refine zan hl ?_)
  exact fin _ (by rw [isP,h1]; rfl)
theorem c_idxPlaced {σ : List zf} {l : List zbw} {f : FuncId} {cap : List AV} {t : List UInt8} {o : Int} (hb : l.length ≤ 1073741824) (hf : ∀ x : zbw, ∀ K : AV → List zf → Prop,K (.d (.bool (isP t o x))) σ → zL Tryz.prog f (.agg [.d (.str x.topic), .d (.int .i64 x.offset), .d (.slice (bcs x.rec_))] :: cap) σ K)
  {K : AV → List zf → Prop} (hK : K (.d (.int .i64 (match plAt t o l 0 with | some k => (k : Int) | none => -1))) σ) : zL Tryz.prog zbd [.d (.slice (zch l)), .fn (.func f) [] cap] σ K := by
 refine zj zbM.is rfl fun hl _ => zbM.goes ?_
 have hlen : (zch l).length = l.length := List.length_map ..
 simp only [zbN,iN,bT,bF,eN]
 (repeat' first | refine gq2 hlen ?_ | with_reducible first | exact ⟨⟩ | refine zh ?_ | fail)
 refine zK l.length (fun k vs s => vs = [.d (.int .i64 k)] ∧ s = σ ∧ plAt t o l 0 = plAt t o (l.drop k) k) ⟨rfl,rfl,by simp⟩ ?_
 rintro k vs s hk ⟨rfl,rfl,hpf⟩
 by_cases hlt : k < l.length
 ·have hd : decide ((k : Int) < (l.length : Int)) = true := by simp; omega
  have hx : l[k]? = some l[k] := by simp [hlt]
  have hgx := zaf (f := zeT) hx
  obtain ⟨x,hxe⟩ : ∃ x,l[k] = x := ⟨_,rfl⟩
  rw [hxe] at hx hgx
  rw [plAt_step hx] at hpf
  have hfx := hf x
  (repeat' first | refine gq2 (zd hd (zd hgx hlen)) ?_ | with_reducible first | exact ⟨⟩ | refine zh ?_ | fail)
  refine hfx _ ?_
  cases h1 : isP t o x
  ·rw [if_neg (by simp [h1])] at hpf
   (repeat' first | refine gq2 (wkc k (by omega)) ?_ | with_reducible first | exact ⟨⟩ | refine zh ?_ | fail)
   exact zav.next hlt ⟨rfl,rfl,hpf⟩
  ·rw [if_pos h1] at hpf
   rw [hpf] at hK
   (repeat' first | refine gq1 ?_ | with_reducible first | exact ⟨⟩ | refine zh ?_ | fail)
   (first | refine zao hl ?_ | refine zan hl ?_)
   exact hK
 ·have hd : decide ((k : Int) < (l.length : Int)) = false := by simp; omega
  rw [List.drop_eq_nil_of_le (by omega)] at hpf
  rw [hpf] at hK
  (repeat' first | refine gq2 hd ?_ | with_reducible first | exact ⟨⟩ | refine zh ?_ | fail)
  (first | refine zao hl ?_ | refine zan hl ?_)
  exact hK
def zff (l : List zdy) : Nat → Option Int
 | 0 => none
 | k + 1 => (l[k]?).map fun b => b.header.seq
theorem c_pfRun {σ : List zf} {l : List zdy} {seq : Int} (hl0 : l.length ≤ 1073741824) (hb : ∀ b ∈ l,zmK b.header.seq) {K : AV → List zf → Prop} (hK : K (.tup [.d (.slice (zde ((zov seq none l).getD []))), .d (.bool (zov seq none l).isSome)]) σ) :
  zL Tryz.prog zmE [.d (.slice (zbv l)), .d (.int .i64 seq)] σ K := by
 refine zj zrp.is rfl fun hl _ => zrp.goes ?_
 have fin : ∀ z : Option (List zec),zov seq none l = z → K (.tup [.d (.slice (zde (z.getD []))), .d (.bool z.isSome)]) σ := fun z h => h ▸ hK
 clear hK
 have hlen : (zbv l).length = l.length := List.length_map ..
 simp only [zrT,iN,bT,bF,eN]
 (repeat' first | refine gq2 hlen ?_ | with_reducible first | exact ⟨⟩ | refine zh ?_ | fail)
 refine zba l.length (fun k vs s => ∃ (acc : List zec) (T : List zf),vs = [.own σ.length (zde acc), .d (.int .i64 k)] ∧ s = σ ++ (.tok 5 acc.length :: T) ∧ acc.length = k ∧ zov seq none l = (zov seq (zff l k) (l.drop k)).map (acc ++ ·))
  (.tok 0 [] 5 rfl (by simp) (.refl _ _)) ⟨[], [],rfl,rfl,rfl,by simp [zff]⟩ ?_
 rintro k vs s hk ⟨acc,T,rfl,rfl,hak,hpf⟩
 have hal : (zde acc).length = acc.length := List.length_map ..
 by_cases hlt : k < l.length
 ·have hd : decide ((k : Int) < (l.length : Int)) = true := by simp; omega
  have hx : l[k]? = some l[k] := by simp [hlt]
  have hbx := hb _ (List.getElem_mem hlt)
  have hgx := zaf (f := zfU) hx
  obtain ⟨b,hbe⟩ : ∃ b,l[k] = b := ⟨_,rfl⟩
  rw [hbe] at hx hgx hbx
  rw [runF_step hx] at hpf
  obtain ⟨acc2,ha2⟩ : ∃ a,acc ++ [b.header] = a := ⟨_,rfl⟩
  have g1 : acc.length + 1 = acc2.length := by rw [← ha2]; simp
  have g2 : zde acc ++ [[.int .i64 b.header.seq, .int .i64 b.header.prev, .int .i64 b.header.batch, .int .i64 b.header.root, .int .i64 b.header.state]] = zde acc2 := by rw [← ha2]; simp
  have nx : ∀ τ : List zf,zqC (zff l k) b.header.seq = true → (b.header.seq == seq) = false → zav l.length (fun k vs s => ∃ (acc : List zec) (T : List zf),vs = [.own σ.length (zde acc), .d (.int .i64 k)] ∧ s = σ ++ (.tok 5 acc.length :: T) ∧ acc.length = k ∧ zov seq none l = (zov seq (zff l k) (l.drop k)).map (acc ++ ·)) k [.own σ.length (zde acc2), .d (.int .i64 ((k : Int) + 1))] (σ ++ (.tok 5 acc2.length :: τ)) := fun τ hst h2 => by
   rw [if_neg (by simp [hst]),if_neg (by simpa using h2)] at hpf
   refine zav.next hlt ⟨acc2, τ,rfl,rfl,by omega, ?_⟩
   rw [hpf,zff,hx,Option.map_map]
   simp only [Option.map_some, ← ha2]
   congr 1
   funext z
   simp
  have st : zqC (zff l k) b.header.seq = true → (b.header.seq == seq) = true → K (.tup [.d (.slice (zde acc2)), .d (.bool true)]) σ := fun hst h2 => by
   rw [if_neg (by simp [hst]),if_pos (by simpa using h2)] at hpf
   exact fin (some acc2) (by rw [hpf, ← ha2]; rfl)
  cases k with
  | zero =>
   cases h2 : (b.header.seq == seq)
   ·(repeat' first | refine gq2 (zd hd (zd hgx (zd (show decide (((0 : Nat) : Int) > 0) = false from rfl) (zd hal (zd g1 (zd g2 h2)))))) ?_ | with_reducible first | exact ⟨⟩ | refine zh ?_ | fail)
    exact nx _ rfl h2
   ·(repeat' first | refine gq2 (zd hd (zd hgx (zd (show decide (((0 : Nat) : Int) > 0) = false from rfl) (zd hal (zd g1 (zd g2 h2)))))) ?_ | with_reducible first | exact ⟨⟩ | refine zh ?_ | fail)
    (first | refine zao hl ?_ | refine zan hl ?_)
    exact st rfl h2
  | succ j =>
   have hz1 : decide (((j + 1 : Nat) : Int) > 0) = true := decide_eq_true (by omega)
   have hw1 : IntKind.i64.wrap (((j + 1 : Nat) : Int) - 1) = (j : Int) := by rw [zai (by omega) (by omega)]; omega
   have hy : l[j]? = some l[j] := by simp [show j < l.length by omega]
   have hby := hb _ (List.getElem_mem (show j < l.length by omega))
   have hgy := zaf (f := zfU) hy
   obtain ⟨y,hye⟩ : ∃ y,l[j] = y := ⟨_,rfl⟩
   rw [hye] at hy hgy hby
   have hws := wrap_step hby hbx
   have hstq : zqC (zff l (j + 1)) b.header.seq = (IntKind.i64.wrap (y.header.seq + 1) == b.header.seq) := by rw [zff,hy]; rfl
   cases h1 : (IntKind.i64.wrap (y.header.seq + 1) == b.header.seq)
   ·rw [h1] at hws hstq
    rw [if_pos hstq] at hpf
    (repeat' first | refine gq2 (zd hd (zd hgx (zd hgy (zd hz1 (zd hw1 hws))))) ?_ | with_reducible first | exact ⟨⟩ | refine zh ?_ | fail)
    (first | refine zao hl ?_ | refine zan hl ?_)
    exact fin none (by rw [hpf]; rfl)
   ·rw [h1] at hws hstq
    cases h2 : (b.header.seq == seq)
    ·(repeat' first | refine gq2 (zd hd (zd hgx (zd hgy (zd hz1 (zd hw1 (zd hws (zd hal (zd g1 (zd g2 (zd h2 (wkc (j + 1) (by omega)))))))))))) ?_ | with_reducible first | exact ⟨⟩ | refine zh ?_ | fail)
     exact nx _ hstq h2
    ·(repeat' first | refine gq2 (zd hd (zd hgx (zd hgy (zd hz1 (zd hw1 (zd hws (zd hal (zd g1 (zd g2 h2))))))))) ?_ | with_reducible first | exact ⟨⟩ | refine zh ?_ | fail)
     (first | refine zao hl ?_ | refine zan hl ?_)
     exact st hstq h2
 ·have hd : decide ((k : Int) < (l.length : Int)) = false := by simp; omega
  rw [List.drop_eq_nil_of_le (by omega)] at hpf
  (repeat' first | refine gq2 hd ?_ | with_reducible first | exact ⟨⟩ | refine zh ?_ | fail)
  (first | refine zao hl ?_ | refine zan hl ?_)
  exact fin none (by rw [hpf]; simp [zov])
end Go.Proofs.YtncpaekiidpchaaGreat

/- Requests that wait: of each client at most one. No program in sight. -/
namespace Go.AW
abbrev PQ := List (Option zA)
structure zgM (q : PQ) : Prop where
 len : q.length = 8
 at_ : ∀ (i : Nat) x,q[i]? = some (some x) → x.client = i ∧ zar [x] = 0 ∧ okO x.op
def zdH (q : PQ) : List zA := q.filterMap id
def ofF (q : PQ) (c : Int) : Option zA := if 0 ≤ c ∧ c < 8 then (q[c.toNat]?).join else none
def mayPut : Option zA → Int → Bool
 | some y,t => decide (y.time < t)
 | none,_ => true
def mayDone : Option zA → Int → Bool
 | some y,t => decide (y.time ≤ t)
 | none,_ => false
def canPut (q : PQ) (x : zA) : Bool := decide (zar [x] = 0) && mayPut (ofF q x.client) x.time
def putQ (q : PQ) (x : zA) : PQ := if canPut q x = true then q.set x.client.toNat (some x) else q
def canDone (q : PQ) (c t : Int) : Bool := mayDone (ofF q c) t
def doneQ (q : PQ) (c t : Int) : PQ := if canDone q c t = true then q.set c.toNat none else q
theorem one_ok {x : zA} (h : zar [x] = 0) : 0 ≤ x.client ∧ x.client < 8 ∧ 1 ≤ x.time ∧ x.time ≤ 9007199254740992 ∧ zbA zfj x.op = 0 ∧ zax x = 0 ∧ zay x.key x.dig = 0 := by
 simp only [zar,List.length_singleton,zkK,errF] at h
 have h1 : ¬ (1 > 4) := by omega
 rw [if_neg h1] at h
 by_cases hr : zax x = 0
 ·by_cases hs : zay x.key x.dig = 0
  ·unfold zax at hr
   split at hr
   ·cases hr
   ·rename_i hc
    have hr' : zax x = 0 := by unfold zax; rw [if_neg hc]; exact hr
    exact ⟨by omega,by omega,by omega,by omega,hr,hr',hs⟩
  ·exfalso
   simp [hr,hs] at h
 ·exfalso
  simp [hr] at h
theorem ofF_some {q : PQ} {c : Int} {x : zA} (h : ofF q c = some x) : 0 ≤ c ∧ c < 8 ∧ q[c.toNat]? = some (some x) := by
 unfold ofF at h
 split at h
 ·rename_i hc
  refine ⟨hc.1,hc.2, ?_⟩
  cases hq : q[c.toNat]? with
  | none => rw [hq] at h; cases h
  | some o => rw [hq] at h; simp at h; rw [h]
 ·cases h
theorem zgM.get {q : PQ} (hq : zgM q) {c : Int} (h0 : 0 ≤ c) (h8 : c < 8) : q[c.toNat]? = some (ofF q c) := by
 have hl := hq.len
 have : q[c.toNat]? = some (q[c.toNat]'(by omega)) := List.getElem?_eq_getElem _
 unfold ofF
 rw [if_pos ⟨h0,h8⟩,this]
 rfl
theorem zgM.put {q : PQ} (hq : zgM q) {x : zA} (hx : okO x.op) : zgM (putQ q x) := by
 unfold putQ
 split
 ·rename_i hc
  simp only [canPut,Bool.and_eq_true,decide_eq_true_eq] at hc
  obtain ⟨h0,h8,_⟩ := one_ok hc.1
  refine ⟨by simp [hq.len],fun i y h => ?_⟩
  rw [List.getElem?_set] at h
  split at h
  ·rename_i e
   split at h
   ·simp at h; subst h
    exact ⟨by omega,hc.1,hx⟩
   ·cases h
  ·exact hq.at_ i y h
 ·exact hq
theorem zgM.done {q : PQ} (hq : zgM q) {c t : Int} : zgM (doneQ q c t) := by
 unfold doneQ
 split
 ·refine ⟨by simp [hq.len],fun i y h => ?_⟩
  rw [List.getElem?_set] at h
  split at h
  ·split at h
   ·simp at h
   ·cases h
  ·exact hq.at_ i y h
 ·exact hq
theorem zmY {q : PQ} {x : zA} (h : x ∈ zdH q) : ∃ i : Nat,q[i]? = some (some x) := by
 simp only [zdH,List.mem_filterMap,id_eq,exists_eq_right] at h
 exact List.mem_iff_getElem?.1 h
end Go.AW

/- Contracts: a pool: made, asked, put into, done. -/
set_option maxRecDepth 100000
namespace Go.Proofs.YtncpaekiidpchaaGreat
open Go.AW
end Go.Proofs.YtncpaekiidpchaaGreat

/- Contracts: a pool: what waits. -/
set_option maxRecDepth 100000
namespace Go.Proofs.YtncpaekiidpchaaGreat
open Go.AW
end Go.Proofs.YtncpaekiidpchaaGreat

/- Contracts: what comes next out of a pool. -/
set_option maxRecDepth 100000
namespace Go.Proofs.YtncpaekiidpchaaGreat
open Go.AW
end Go.Proofs.YtncpaekiidpchaaGreat

/- Contracts: whether what was sealed is valid; a batch's number. -/
set_option maxRecDepth 100000
namespace Go.Proofs.YtncpaekiidpchaaGreat
open Go.AW
def digE (L : List (List UInt8)) (l : List zA) : Int := if zar l ≠ 0 then zar l else if zed L (zjX l) = 0 then 6 else 0
def digD (L : List (List UInt8)) (l : List zA) : Int := if zar l ≠ 0 then 0 else zed L (zjX l)
def ztu (L : List (List UInt8)) (l : List zA) : List (List UInt8) := if zar l ≠ 0 then L else zfk L (zjX l)
end Go.Proofs.YtncpaekiidpchaaGreat

/- Contracts: what the document says of sealed requests. -/
set_option maxRecDepth 100000
namespace Go.Proofs.YtncpaekiidpchaaGreat
open Go.AW
theorem c_rqrKey {σ : List zf} {c : Int} {K : AV → List zf → Prop} (hK : K (.d (.int .i64 (keyF c))) σ) : zL Tryz.prog zkA [.d (.int .i64 c)] σ K := c_rKey hK
theorem c_rqrSeal {σ : List zf} {id id2 : Nat} {L : List (List UInt8)} {G : List zae} {x : zA} (hT : σ[id]? = some (rtO L)) (hG : σ[id2]? = some (rlO G)) (h1 : id ≠ id2) (hL : zjY L) (hGl : G.length ≤ 1073741824)
  (hx : zkq x.op ≤ 20971520) {K : AV → List zf → Prop}
  (hK : K (.tup [zot (zsc L x), .d (.int .i64 (zou L x))]) ((σ.set id (rtO (sealL L x))).set id2 (rlO (sealG L G x)))) : zL Tryz.prog zix [.box id 0, .box id2 0,reqA x] σ K := by
 refine zj ztf.is rfl fun hl _ => ztf.goes ?_
 have hsz := sizes hx
 simp only [ztS,iN,bT,bF,eN,reqA]
 (repeat' first | refine gq1 ?_ | with_reducible first | exact ⟨⟩ | refine zh ?_ | fail)
 refine ztB (x := x) hx ?_
 by_cases hc : zax x = 0
 ·have hb : (zax x != 0) = false := by simpa using hc
  have hrl := zql (x := x) (by omega) hc
  (repeat' first | refine gq2 hb ?_ | with_reducible first | exact ⟨⟩ | refine zh ?_ | fail)
  refine c_rqrKey ?_
  rw [show zfN x = zqF x from if_pos hc]
  (repeat' first | refine gq1 ?_ | with_reducible first | exact ⟨⟩ | refine zh ?_ | fail)
  refine zjI (zg hT) (by omega) hL.len ?_
  rw [zbE hT]
  simp only [sealL,sealG,hc,ne_eq,not_true_eq_false,if_false] at hK
  have e1 : zou L x = zeR (keyF x.client) (zed L (zqF x)) := by rw [zou,if_neg (by simpa using hc)]
  rw [e1] at hK
  have hl1 : zfi σ.length (σ.set id (rtO (zfk L (zqF x)))) := hl.setO (zew _ _)
  have hs1 : (σ.set id (rtO (zfk L (zqF x)))).length = σ.length := by simp
  have hG1 : (σ.set id (rtO (zfk L (zqF x))))[id2]? = some (rlO G) := by rw [List.getElem?_set_ne h1]; exact hG
  obtain ⟨S1,hS1⟩ : ∃ S1, σ.set id (rtO (zfk L (zqF x))) = S1 := ⟨_,rfl⟩
  rw [hS1] at hK hG1 hs1 hl1 ⊢
  have r1 : σ.length = S1.length := hs1.symm
  (repeat' first | refine gq2 r1 ?_ | with_reducible first | exact ⟨⟩ | refine zh ?_ | fail)
  refine c_rgSign (zg hG1) hGl ?_
  rw [zbE hG1]
  obtain ⟨N,hN⟩ : ∃ N,zeR (keyF x.client) (zed L (zqF x)) = N := ⟨_,rfl⟩
  have hl2 : zfi σ.length (S1.set id2 (rlO (zgD G (keyF x.client) (zed L (zqF x))))) := hl1.setO (rlO_low _ _)
  have hs2 : (S1.set id2 (rlO (zgD G (keyF x.client) (zed L (zqF x))))).length = S1.length := by simp
  obtain ⟨S2,hS2⟩ : ∃ S2,S1.set id2 (rlO (zgD G (keyF x.client) (zed L (zqF x)))) = S2 := ⟨_,rfl⟩
  rw [hS2] at hK hs2 hl2 ⊢
  have r2 : σ.length = S2.length := by rw [r1]; exact hs2.symm
  have r3 : S1.length = S2.length := hs2.symm
  rw [r2] at hl2
  rw [hN] at hK ⊢
  simp only [zun]
  by_cases hN0 : N = 0
  ·have hq : (N != 0) = false := by simpa using hN0
   have e2 : zsc L x = ⟨x.client,x.time,x.op,keyF x.client,zed L (zqF x)⟩ := by rw [zsc,if_pos (by rw [e1,hN,hN0])]
   have e3 : signR (keyF x.client) (zed L (zqF x)) = ⟨keyF x.client,zed L (zqF x)⟩ := by rw [signR,if_pos (by rw [hN,hN0])]
   rw [e2] at hK
   rw [e3]
   (repeat' first | refine gq2 (zd hq (zd r2 r3)) ?_ | with_reducible first | exact ⟨⟩ | refine zh ?_ | fail)
   rw [hN0] at hK
   refine zda rfl ?_ hl2 ?_
   ·simp [zdj,dmT,dm,dm1,zbV,zby,zea]
   ·exact hK
  ·have hq : (N != 0) = true := by simpa using hN0
   have e2 : zsc L x = noSg := by rw [zsc,if_neg (by rw [e1,hN]; exact hN0)]
   rw [e2] at hK
   rw [show signR (keyF x.client) (zed L (zqF x)) = ⟨0, 0⟩ from by rw [signR,if_neg (by rw [hN]; exact hN0)]]
   (repeat' first | refine gq2 (zd hq (zd r2 r3)) ?_ | with_reducible first | exact ⟨⟩ | refine zh ?_ | fail)
   refine zda rfl ?_ hl2 ?_
   ·simp [zdj,dmT,dm,dm1,zbV,zby,zea]
   ·exact hK
 ·have hb : (zax x != 0) = true := by simpa using hc
  have e1 : zou L x = zax x := if_pos hc
  have e2 : zsc L x = noSg := by rw [zsc,if_neg (by rw [e1]; exact hc)]
  rw [e1,e2,sealL,sealG,if_pos hc,if_pos hc,zbD hT,zbD hG] at hK
  (repeat' first | refine gq2 hb ?_ | with_reducible first | exact ⟨⟩ | refine zh ?_ | fail)
  (first | refine zao hl ?_ | refine zan hl ?_)
  exact hK
theorem gq43 {P Q : Prop} (h : Q) (e : P = Q := by simp -dsimp only [↓zcR, ↓zal, ↓zaM, ↓zcS, ↓zcN, ↓zcL, ↓zcO, ↓zcM, ↓zaR, ↓zaN, ↓zaS, ↓zaO, ↓zcP, ↓zaL, ↓zaT, ↓zaP, ↓zaU, ↓zaQ, ↓zcK, ↓zcQ, ↓zaK, ↓zaV, ↓zcI, ↓zcH, ↓zcJ,iN,bT,bF,eN, ↓zbI, ↓unC, ↓zQ, ↓zF, ↓zG, ↓zI, ↓zR, ↓zap, ↓zbp, ↓zab, ↓zaX, ↓zP, ↓zp, ↓zm, ↓zbg, ↓zi, ↓zY, ↓zB, ↓zas, ↓zaw, ↓ze, ↓zC, ↓zr, ↓zt, ↓zad, ↓zbL, ↓zbY, ↓zaa, ↓zaj, ↓zau, ↓zaB, ↓zaD, ↓zl, ↓zZ, ↓zH, ↓zu, ↓zS,zcd,zaI,zaH,unA,zce,bnd,zcn,zX,zV,zcp,dm,dm1,zD,zag,zcy,zcx,zU,Q0,Q1,Q2,Q3,Q4,Q5,zO,zq,zw,zM,zE,Q6,Q7,Q8,Q9,Q10,Q11,Q12,Q13,Q14,Nat.reduceAdd,Q15,Int.reduceToNat,Q16,Q17,Q18,Q19,Q20,reduceIte,Q21,Q22,zx,rep,zT,zcv,toD,zW,Q23,Q24,Q25,Q26,Q27,Q28,Nat.reduceLeDiff,Q29,Nat.reduceSub,Q30,Q31,Q32,sc,Q33,Q34,Q35,Q36,Q37,Q26,Q38,Q39,zel,zei,zef,zem,zbt,zej,zeg,zek,zeh,zbs,zbu,zen,zeo,Bool.not_true,Bool.not_false,List.length_map,beq_self_eq_true,bne_self_eq_false]; rfl) : P := e.mpr h
theorem c_rqrDigest {σ : List zf} {id : Nat} {L : List (List UInt8)} {l : List zA} (hT : σ[id]? = some (rtO L)) (hL : zjY L)
  (hx : ∀ s ∈ l,zkq s.op ≤ 20971520) (hll : l.length ≤ 1073741824) {K : AV → List zf → Prop} (hK : K (.tup [.d (.int .i64 (digD L l)), .d (.int .i64 (digE L l))]) (σ.set id (rtO (ztu L l)))) :
  zL Tryz.prog zkB [.box id 0, .d (.slice (zfV l))] σ K := by
 refine zj zpy.is rfl fun hl _ => zpy.goes ?_
 have hok : okB l := ⟨hll,fun s hs => sizes (hx s hs)⟩
 simp only [zpM,iN,bT,bF,eN]
 (repeat' first | refine gq1 ?_ | with_reducible first | exact ⟨⟩ | refine zh ?_ | fail)
 refine znJ hok ?_
 by_cases hc : zar l = 0
 ·have hq : (zar l != 0) = false := by simpa using hc
  have hbl := zml hx
  have hc' : ¬ zar l ≠ 0 := by simpa using hc
  rw [show digD L l = zed L (zjX l) from if_neg hc',show ztu L l = zfk L (zjX l) from if_neg hc',show digE L l = if zed L (zjX l) = 0 then 6 else 0 from if_neg hc'] at hK
  (repeat' first | refine gq2 hq ?_ | with_reducible first | exact ⟨⟩ | refine zh ?_ | fail)
  refine c_rPutBatch (b := []) (by simp) hx hll ?_
  rw [List.nil_append,show zeD l = zjX l from if_pos hc] at *
  (repeat' first | refine gq1 ?_ | with_reducible first | exact ⟨⟩ | refine zh ?_ | fail)
  refine zjI hT (by omega) hL.len ?_
  have hl1 : zfi σ.length (σ.set id (rtO (zfk L (zjX l)))) := hl.setO (zew _ _)
  by_cases h0 : zed L (zjX l) = 0
  ·rw [if_pos h0] at hK
   rw [h0] at hK ⊢
   (repeat' first | refine gq43 ?_ | with_reducible first | exact ⟨⟩ | refine zh ?_ | fail)
   refine zcs (by simp) ?_ hl1 ?_
   ·simp [zdj,dmT,dm,dm1,zbV,zby]
   ·exact hK
  ·rw [if_neg h0] at hK
   have h0' : (zed L (zjX l) == 0) = false := by simpa using h0
   (repeat' first | refine gq2 h0' ?_ | with_reducible first | exact ⟨⟩ | refine zh ?_ | fail)
   refine zcs (by simp) ?_ hl1 ?_
   ·simp [zdj,dmT,dm,dm1,zbV,zby]
   ·exact hK
 ·have hq : (zar l != 0) = true := by simpa using hc
  rw [digD,digE,ztu,if_pos hc,if_pos hc,if_pos hc,zbD hT] at hK
  (repeat' first | refine gq2 hq ?_ | with_reducible first | exact ⟨⟩ | refine zh ?_ | fail)
  (first | refine zao hl ?_ | refine zan hl ?_)
  exact hK
end Go.Proofs.YtncpaekiidpchaaGreat
