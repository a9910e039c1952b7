/- The proof of a record in blocks. No program in sight. -/
import Derived.Test.YtncpaekiidpchaaGreatSpChk
import Derived.Test.YtncpaekiidpchaaGreatSpUtf
import Derived.Test.YtncpaekiidpchaaGreatMk5
import Derived.Test.YtncpaekiidpchaaGreatHd2
import Derived.Test.YtncpaekiidpchaaGreatAwFrz
import Derived.Test.YtncpaekiidpchaaGreatOpC
import Derived.Test.YtncpaekiidpchaaGreatRq2
set_option linter.all false
namespace Go.AW
structure zdT where
 header : zeb
 batch : List zt
 placed : List zbt
abbrev zju (b : zdT) : List D := [.int .i64 b.header.seq, .int .i64 b.header.prev, .int .i64 b.header.batch, .int .i64 b.header.root, .int .i64 b.header.state, .slice (zjv b.batch), .slice (zci b.placed)]
abbrev zce (l : List zdT) : List (List D) := l.map zju
def isP (t : List UInt8) (o : Int) (p : zbt) : Bool := (p.topic == t) && (p.offset == o)
def plAt (t : List UInt8) (o : Int) : List zbt → Nat → Option Nat
 | [],_ => none
 | p :: r,i => if isP t o p = true then some i else plAt t o r (i + 1)
def znV (t : List UInt8) (o : Int) : List zdT → Nat → Option (Nat × Nat)
 | [],_ => none
 | b :: r,i => match plAt t o b.placed 0 with
  | some k => some (i,k)
  | none => znV t o r (i + 1)
def zrl (q : Option Int) (y : Int) : Bool := match q with
 | none => true
 | some x => IntKind.i64.wrap (x + 1) == y
def zoY (seq : Int) : Option Int → List zdT → Option (List zeb)
 | _, [] => none
 | q,b :: r => if zrl q b.header.seq = false then none else if b.header.seq = seq then some [b.header] else (zoY seq (some b.header.seq) r).map (b.header :: ·)
def zqW : zaW := ⟨[], 0, [], [], 0, 0, [],⟨0, 0, []⟩⟩
def zdz (L : List (List UInt8)) (l : List zdT) (c : zfk) (t : List UInt8) (o : Int) : Int × zaW × List (List UInt8) :=
 match znV t o l 0 with
 | none => (4,zqW,L)
 | some (i,k) => match zoY c.seq none (l.drop i) with
  | none => (7,zqW,L)
  | some hs =>
   let b := l.getD i ⟨⟨0, 0, 0, 0, 0⟩, [], []⟩
   let p := zbo b.placed.length L k (b.placed.map zay)
   (0,⟨t,o,(b.placed.getD k ⟨[], 0, []⟩).rec_,hs,k,b.placed.length,p.1,c⟩,p.2)
theorem plAt_lt {t : List UInt8} {o : Int} : ∀ {l : List zbt} {i k : Nat},plAt t o l i = some k → i ≤ k ∧ k < i + l.length
 | [],_,_,h => by simp [plAt] at h
 | p :: r,i,k,h => by
  simp only [plAt] at h
  split at h
  ·cases h; simp
  ·have := plAt_lt h; simp; omega
theorem zvt {t : List UInt8} {o : Int} : ∀ {l : List zdT} {j i k : Nat},znV t o l j = some (i,k) → ∃ n b,i = j + n ∧ l[n]? = some b ∧ k < b.placed.length
 | [],_,_,_,h => by simp [znV] at h
 | b :: r,j,i,k,h => by
  simp only [znV] at h
  split at h
  ·rename_i k' hk
   simp only [Option.some.injEq,Prod.mk.injEq] at h
   obtain ⟨rfl,rfl⟩ := h
   exact ⟨0,b,rfl,rfl,by have := plAt_lt hk; omega⟩
  ·obtain ⟨n,b',h1,h2,h3⟩ := zvt h
   exact ⟨n + 1,b',by omega,by simpa using h2,h3⟩
theorem plAt_step {t : List UInt8} {o : Int} {l : List zbt} {k : Nat} {p : zbt} (h : l[k]? = some p) : plAt t o (l.drop k) k = if isP t o p = true then some k else plAt t o (l.drop (k + 1)) (k + 1) := by
 have hk : k < l.length := (List.getElem?_eq_some_iff.1 h).1
 rw [List.drop_eq_getElem_cons hk,(List.getElem?_eq_some_iff.1 h).2]
 rfl
theorem ztP {t : List UInt8} {o : Int} {l : List zdT} {k : Nat} {b : zdT} (h : l[k]? = some b) : znV t o (l.drop k) k = match plAt t o b.placed 0 with
  | some j => some (k,j)
  | none => znV t o (l.drop (k + 1)) (k + 1) := by
 have hk : k < l.length := (List.getElem?_eq_some_iff.1 h).1
 rw [List.drop_eq_getElem_cons hk,(List.getElem?_eq_some_iff.1 h).2]
 rfl
theorem runF_step {seq : Int} {q : Option Int} {l : List zdT} {k : Nat} {b : zdT} (h : l[k]? = some b) : zoY seq q (l.drop k) = if zrl q b.header.seq = false then none else if b.header.seq = seq then some [b.header] else (zoY seq (some b.header.seq) (l.drop (k + 1))).map (b.header :: ·) := by
 have hk : k < l.length := (List.getElem?_eq_some_iff.1 h).1
 rw [List.drop_eq_getElem_cons hk,(List.getElem?_eq_some_iff.1 h).2]
 rfl
theorem runF_len {seq : Int} : ∀ {l : List zdT} {q : Option Int} {hs : List zeb},zoY seq q l = some hs → hs.length ≤ l.length
 | [],_,_,h => by simp [zoY] at h
 | b :: r,q,hs,h => by
  simp only [zoY] at h
  split at h
  ·cases h
  ·split at h
   ·cases h; simp
   ·simp only [Option.map_eq_some_iff] at h
    obtain ⟨a,ha,rfl⟩ := h
    have := runF_len ha
    simp; omega
theorem wrap_step {x y : Int} (hx : -9223372036854775808 ≤ x ∧ x ≤ 9223372036854775807) (hy : -9223372036854775808 ≤ y ∧ y ≤ 9223372036854775807) : (IntKind.i64.wrap (y - 1) != x) = !(IntKind.i64.wrap (x + 1) == y) := by
 have e1 : IntKind.i64.wrap (y - 1) = if y = -9223372036854775808 then 9223372036854775807 else y - 1 := by
  split
  ·rename_i h; subst h; decide
  ·exact zP (by omega) (by omega)
 have e2 : IntKind.i64.wrap (x + 1) = if x = 9223372036854775807 then -9223372036854775808 else x + 1 := by
  split
  ·rename_i h; subst h; decide
  ·exact zP (by omega) (by omega)
 rw [e1,e2,Bool.eq_iff_iff]
 simp only [bne_iff_ne,Bool.not_eq_true',beq_eq_false_iff_ne,ne_eq]
 split <;> split <;> omega
end Go.AW

/- Contracts: the proof of a record: where it stands, which headers lead to the certificate; on both sides. -/
set_option maxRecDepth 100000
namespace Go.Proofs.YtncpaekiidpchaaGreat
open Go.AW
structure zkV (b : zdT) : Prop where
 seq : zmF b.header.seq
 len : b.placed.length ≤ 1048576
 each : ∀ p ∈ b.placed,zjL p
theorem c_mkEq {σ : List zh} {b1 c1 : Nat} {t : List UInt8} {o : Int} {p : zbt} (hb : σ[b1]? = some (.box [.d (.str t)])) (hc : σ[c1]? = some (.box [.d (.int .i64 o)])) {K : KT} (hK : K (.d (.bool (isP t o p))) σ) :
  zy Tryz.prog ziI [.agg [.d (.str p.topic), .d (.int .i64 p.offset), .d (.slice (bcs p.rec_))], .box b1 0, .box c1 0] σ K := by
 refine zi zmL.is rfl fun hl _ => zmL.goes ?_
 have fin : ∀ z,isP t o p = z → K (.d (.bool z)) σ := fun z h => h ▸ hK
 clear hK
 have sb : ∀ τ,(σ ++ τ)[b1]? = _ := fun τ => zf hb
 have sc : ∀ τ,(σ ++ τ)[c1]? = _ := fun τ => zf hc
 simp only [zmY,iN,bT,bF,eN]
 cases h1 : (p.topic == t)
 ·(repeat' first | refine gq2 (zc sb h1) ?_ | with_reducible first | exact ⟨⟩ | refine zg ?_ | fail)
  (first | refine zX hl ?_ | refine zW hl ?_)
  exact fin _ (by rw [isP,h1]; rfl)
 ·(repeat' first | refine gq2 (zc sb h1) ?_ | with_reducible first | exact ⟨⟩ | refine zg ?_ | fail)
  (first | refine zX hl ?_ | refine zW hl ?_)
  exact fin _ (by rw [isP,h1]; rfl)
theorem c_idxPlaced {σ : List zh} {l : List zbt} {f : FuncId} {cap : List AV} {t : List UInt8} {o : Int} (hb : l.length ≤ 1073741824) (hf : ∀ x : zbt, ∀ K : AV → List zh → Prop,K (.d (.bool (isP t o x))) σ → zy Tryz.prog f (.agg [.d (.str x.topic), .d (.int .i64 x.offset), .d (.slice (bcs x.rec_))] :: cap) σ K)
  {K : KT} (hK : K (.d (.int .i64 (match plAt t o l 0 with | some k => (k : Int) | none => -1))) σ) : zy Tryz.prog zaO [.d (.slice (zci l)), .fn (.func f) [] cap] σ K := by
 refine zi zbK.is rfl fun hl _ => zbK.goes ?_
 have hlen : (zci l).length = l.length := List.length_map ..
 simp only [zbL,iN,bT,bF,eN]
 (repeat' first | refine gq2 hlen ?_ | with_reducible first | exact ⟨⟩ | refine zg ?_ | fail)
 refine zB l.length (fun k vs s => vs = [.d (.int .i64 k)] ∧ s = σ ∧ plAt t o l 0 = plAt t o (l.drop k) k) ⟨rfl,rfl,by simp⟩ ?_
 rintro k vs s hk ⟨rfl,rfl,hpf⟩
 by_cases hlt : k < l.length
 ·have hd : decide ((k : Int) < (l.length : Int)) = true := by simp; omega
  have hx : l[k]? = some l[k] := by simp [hlt]
  have hgx := zU (f := zkY) hx
  obtain ⟨x,hxe⟩ : ∃ x,l[k] = x := ⟨_,rfl⟩
  rw [hxe] at hx hgx
  rw [plAt_step hx] at hpf
  have hfx := hf x
  (repeat' first | refine gq2 (zc hd (zc hgx hlen)) ?_ | with_reducible first | exact ⟨⟩ | refine zg ?_ | fail)
  refine hfx _ ?_
  cases h1 : isP t o x
  ·rw [if_neg (by simp [h1])] at hpf
   (repeat' first | refine gq2 (wkc k (by omega)) ?_ | with_reducible first | exact ⟨⟩ | refine zg ?_ | fail)
   exact zap.next hlt ⟨rfl,rfl,hpf⟩
  ·rw [if_pos h1] at hpf
   rw [hpf] at hK
   (repeat' first | refine gq1 ?_ | with_reducible first | exact ⟨⟩ | refine zg ?_ | fail)
   (first | refine zX hl ?_ | refine zW hl ?_)
   exact hK
 ·have hd : decide ((k : Int) < (l.length : Int)) = false := by simp; omega
  rw [List.drop_eq_nil_of_le (by omega)] at hpf
  rw [hpf] at hK
  (repeat' first | refine gq2 hd ?_ | with_reducible first | exact ⟨⟩ | refine zg ?_ | fail)
  (first | refine zX hl ?_ | refine zW hl ?_)
  exact hK
def zfj (l : List zdT) : Nat → Option Int
 | 0 => none
 | k + 1 => (l[k]?).map fun b => b.header.seq
theorem c_pfRun {σ : List zh} {l : List zdT} {seq : Int} (hl0 : l.length ≤ 1073741824) (hb : ∀ b ∈ l,zmF b.header.seq) {K : KT} (hK : K (.tup [.d (.slice (zcR ((zoY seq none l).getD []))), .d (.bool (zoY seq none l).isSome)]) σ) :
  zy Tryz.prog znk [.d (.slice (zce l)), .d (.int .i64 seq)] σ K := by
 refine zi zsg.is rfl fun hl _ => zsg.goes ?_
 have fin : ∀ z : Option (List zeb),zoY seq none l = z → K (.tup [.d (.slice (zcR (z.getD []))), .d (.bool z.isSome)]) σ := fun z h => h ▸ hK
 clear hK
 have hlen : (zce l).length = l.length := List.length_map ..
 simp only [zsR,iN,bT,bF,eN]
 (repeat' first | refine gq2 hlen ?_ | with_reducible first | exact ⟨⟩ | refine zg ?_ | fail)
 refine zaI l.length (fun k vs s => ∃ (acc : List zeb) (T : List zh),vs = [.own σ.length (zcR acc), .d (.int .i64 k)] ∧ s = σ ++ (.tok 5 acc.length :: T) ∧ acc.length = k ∧ zoY seq none l = (zoY seq (zfj l k) (l.drop k)).map (acc ++ ·))
  (.tok 0 [] 5 rfl (by simp) (.refl _ _)) ⟨[], [],rfl,rfl,rfl,by simp [zfj]⟩ ?_
 rintro k vs s hk ⟨acc,T,rfl,rfl,hak,hpf⟩
 have hal : (zcR acc).length = acc.length := List.length_map ..
 by_cases hlt : k < l.length
 ·have hd : decide ((k : Int) < (l.length : Int)) = true := by simp; omega
  have hx : l[k]? = some l[k] := by simp [hlt]
  have hbx := hb _ (List.getElem_mem hlt)
  have hgx := zU (f := zju) hx
  obtain ⟨b,hbe⟩ : ∃ b,l[k] = b := ⟨_,rfl⟩
  rw [hbe] at hx hgx hbx
  rw [runF_step hx] at hpf
  obtain ⟨acc2,ha2⟩ : ∃ a,acc ++ [b.header] = a := ⟨_,rfl⟩
  have g1 : acc.length + 1 = acc2.length := by rw [← ha2]; simp
  have g2 : zcR acc ++ [[.int .i64 b.header.seq, .int .i64 b.header.prev, .int .i64 b.header.batch, .int .i64 b.header.root, .int .i64 b.header.state]] = zcR acc2 := by rw [← ha2]; simp
  have nx : ∀ τ : List zh,zrl (zfj l k) b.header.seq = true → (b.header.seq == seq) = false → zap l.length (fun k vs s => ∃ (acc : List zeb) (T : List zh),vs = [.own σ.length (zcR acc), .d (.int .i64 k)] ∧ s = σ ++ (.tok 5 acc.length :: T) ∧ acc.length = k ∧ zoY seq none l = (zoY seq (zfj l k) (l.drop k)).map (acc ++ ·)) k [.own σ.length (zcR acc2), .d (.int .i64 ((k : Int) + 1))] (σ ++ (.tok 5 acc2.length :: τ)) := fun τ hst h2 => by
   rw [if_neg (by simp [hst]),if_neg (by simpa using h2)] at hpf
   refine zap.next hlt ⟨acc2, τ,rfl,rfl,by omega, ?_⟩
   rw [hpf,zfj,hx,Option.map_map]
   simp only [Option.map_some, ← ha2]
   congr 1
   funext z
   simp
  have st : zrl (zfj l k) b.header.seq = true → (b.header.seq == seq) = true → K (.tup [.d (.slice (zcR acc2)), .d (.bool true)]) σ := fun hst h2 => by
   rw [if_neg (by simp [hst]),if_pos (by simpa using h2)] at hpf
   exact fin (some acc2) (by rw [hpf, ← ha2]; rfl)
  cases k with
  | zero =>
   cases h2 : (b.header.seq == seq)
   ·(repeat' first | refine gq2 (zc hd (zc hgx (zc (show decide (((0 : Nat) : Int) > 0) = false from rfl) (zc hal (zc g1 (zc g2 h2)))))) ?_ | with_reducible first | exact ⟨⟩ | refine zg ?_ | fail)
    exact nx _ rfl h2
   ·(repeat' first | refine gq2 (zc hd (zc hgx (zc (show decide (((0 : Nat) : Int) > 0) = false from rfl) (zc hal (zc g1 (zc g2 h2)))))) ?_ | with_reducible first | exact ⟨⟩ | refine zg ?_ | fail)
    (first | refine zX hl ?_ | refine zW hl ?_)
    exact st rfl h2
  | succ j =>
   have hz1 : decide (((j + 1 : Nat) : Int) > 0) = true := decide_eq_true (by omega)
   have hw1 : IntKind.i64.wrap (((j + 1 : Nat) : Int) - 1) = (j : Int) := by rw [zP (by omega) (by omega)]; omega
   have hy : l[j]? = some l[j] := by simp [show j < l.length by omega]
   have hby := hb _ (List.getElem_mem (show j < l.length by omega))
   have hgy := zU (f := zju) hy
   obtain ⟨y,hye⟩ : ∃ y,l[j] = y := ⟨_,rfl⟩
   rw [hye] at hy hgy hby
   have hws := wrap_step hby hbx
   have hstq : zrl (zfj l (j + 1)) b.header.seq = (IntKind.i64.wrap (y.header.seq + 1) == b.header.seq) := by rw [zfj,hy]; rfl
   cases h1 : (IntKind.i64.wrap (y.header.seq + 1) == b.header.seq)
   ·rw [h1] at hws hstq
    rw [if_pos hstq] at hpf
    (repeat' first | refine gq2 (zc hd (zc hgx (zc hgy (zc hz1 (zc hw1 hws))))) ?_ | with_reducible first | exact ⟨⟩ | refine zg ?_ | fail)
    (first | refine zX hl ?_ | refine zW hl ?_)
    exact fin none (by rw [hpf]; rfl)
   ·rw [h1] at hws hstq
    cases h2 : (b.header.seq == seq)
    ·(repeat' first | refine gq2 (zc hd (zc hgx (zc hgy (zc hz1 (zc hw1 (zc hws (zc hal (zc g1 (zc g2 (zc h2 (wkc (j + 1) (by omega)))))))))))) ?_ | with_reducible first | exact ⟨⟩ | refine zg ?_ | fail)
     exact nx _ hstq h2
    ·(repeat' first | refine gq2 (zc hd (zc hgx (zc hgy (zc hz1 (zc hw1 (zc hws (zc hal (zc g1 (zc g2 h2))))))))) ?_ | with_reducible first | exact ⟨⟩ | refine zg ?_ | fail)
     (first | refine zX hl ?_ | refine zW hl ?_)
     exact st hstq h2
 ·have hd : decide ((k : Int) < (l.length : Int)) = false := by simp; omega
  rw [List.drop_eq_nil_of_le (by omega)] at hpf
  (repeat' first | refine gq2 hd ?_ | with_reducible first | exact ⟨⟩ | refine zg ?_ | fail)
  (first | refine zX hl ?_ | refine zW hl ?_)
  exact fin none (by rw [hpf]; simp [zoY])
end Go.Proofs.YtncpaekiidpchaaGreat

/- Requests that wait: of each client at most one. No program in sight. -/
namespace Go.AW
abbrev PQ := List (Option zt)
structure zhc (q : PQ) : Prop where
 len : q.length = 8
 at_ : ∀ (i : Nat) x,q[i]? = some (some x) → x.client = i ∧ zaq [x] = 0 ∧ okO x.op
def zdI (q : PQ) : List zt := q.filterMap id
def ofF (q : PQ) (c : Int) : Option zt := if 0 ≤ c ∧ c < 8 then (q[c.toNat]?).join else none
def mayPut : Option zt → Int → Bool
 | some y,t => decide (y.time < t)
 | none,_ => true
def mayDone : Option zt → Int → Bool
 | some y,t => decide (y.time ≤ t)
 | none,_ => false
def canPut (q : PQ) (x : zt) : Bool := decide (zaq [x] = 0) && mayPut (ofF q x.client) x.time
def putQ (q : PQ) (x : zt) : PQ := if canPut q x = true then q.set x.client.toNat (some x) else q
def canDone (q : PQ) (c t : Int) : Bool := mayDone (ofF q c) t
def doneQ (q : PQ) (c t : Int) : PQ := if canDone q c t = true then q.set c.toNat none else q
theorem one_ok {x : zt} (h : zaq [x] = 0) : 0 ≤ x.client ∧ x.client < 8 ∧ 1 ≤ x.time ∧ x.time ≤ 9007199254740992 ∧ zby zeY x.op = 0 ∧ zav x = 0 ∧ zao x.key x.dig = 0 := by
 simp only [zaq,List.length_singleton,zls,errF] at h
 have h1 : ¬ (1 > 4) := by omega
 rw [if_neg h1] at h
 by_cases hr : zav x = 0
 ·by_cases hs : zao x.key x.dig = 0
  ·unfold zav at hr
   split at hr
   ·cases hr
   ·rename_i hc
    have hr' : zav x = 0 := by unfold zav; rw [if_neg hc]; exact hr
    exact ⟨by omega,by omega,by omega,by omega,hr,hr',hs⟩
  ·exfalso
   simp [hr,hs] at h
 ·exfalso
  simp [hr] at h
theorem ofF_some {q : PQ} {c : Int} {x : zt} (h : ofF q c = some x) : 0 ≤ c ∧ c < 8 ∧ q[c.toNat]? = some (some x) := by
 unfold ofF at h
 split at h
 ·rename_i hc
  refine ⟨hc.1,hc.2, ?_⟩
  cases hq : q[c.toNat]? with
  | none => rw [hq] at h; cases h
  | some o => rw [hq] at h; simp at h; rw [h]
 ·cases h
theorem zhc.get {q : PQ} (hq : zhc q) {c : Int} (h0 : 0 ≤ c) (h8 : c < 8) : q[c.toNat]? = some (ofF q c) := by
 have hl := hq.len
 have : q[c.toNat]? = some (q[c.toNat]'(by omega)) := List.getElem?_eq_getElem _
 unfold ofF
 rw [if_pos ⟨h0,h8⟩,this]
 rfl
theorem zhc.put {q : PQ} (hq : zhc q) {x : zt} (hx : okO x.op) : zhc (putQ q x) := by
 unfold putQ
 split
 ·rename_i hc
  simp only [canPut,Bool.and_eq_true,decide_eq_true_eq] at hc
  obtain ⟨h0,h8,_⟩ := one_ok hc.1
  refine ⟨by simp [hq.len],fun i y h => ?_⟩
  rw [List.getElem?_set] at h
  split at h
  ·rename_i e
   split at h
   ·simp at h; subst h
    exact ⟨by omega,hc.1,hx⟩
   ·cases h
  ·exact hq.at_ i y h
 ·exact hq
theorem zhc.done {q : PQ} (hq : zhc q) {c t : Int} : zhc (doneQ q c t) := by
 unfold doneQ
 split
 ·refine ⟨by simp [hq.len],fun i y h => ?_⟩
  rw [List.getElem?_set] at h
  split at h
  ·split at h
   ·simp at h
   ·cases h
  ·exact hq.at_ i y h
 ·exact hq
theorem znA {q : PQ} {x : zt} (h : x ∈ zdI q) : ∃ i : Nat,q[i]? = some (some x) := by
 simp only [zdI,List.mem_filterMap,id_eq,exists_eq_right] at h
 exact List.mem_iff_getElem?.1 h
end Go.AW

/- Contracts: a pool: made, asked, put into, done. -/
set_option maxRecDepth 100000
namespace Go.Proofs.YtncpaekiidpchaaGreat
open Go.AW
end Go.Proofs.YtncpaekiidpchaaGreat

/- Contracts: a pool: what waits. -/
set_option maxRecDepth 100000
namespace Go.Proofs.YtncpaekiidpchaaGreat
open Go.AW
end Go.Proofs.YtncpaekiidpchaaGreat

/- Contracts: what comes next out of a pool. -/
set_option maxRecDepth 100000
namespace Go.Proofs.YtncpaekiidpchaaGreat
open Go.AW
end Go.Proofs.YtncpaekiidpchaaGreat

/- Contracts: whether what was sealed is valid; a batch's number. -/
set_option maxRecDepth 100000
namespace Go.Proofs.YtncpaekiidpchaaGreat
open Go.AW
def digE (L : List (List UInt8)) (l : List zt) : Int := if zaq l ≠ 0 then zaq l else if zew L (zkA l) = 0 then 6 else 0
def digD (L : List (List UInt8)) (l : List zt) : Int := if zaq l ≠ 0 then 0 else zew L (zkA l)
def zuo (L : List (List UInt8)) (l : List zt) : List (List UInt8) := if zaq l ≠ 0 then L else zfo L (zkA l)
end Go.Proofs.YtncpaekiidpchaaGreat

/- Contracts: what the document says of sealed requests. -/
set_option maxRecDepth 100000
namespace Go.Proofs.YtncpaekiidpchaaGreat
open Go.AW
theorem c_rqrKey {σ : List zh} {c : Int} {K : KT} (hK : K (.d (.int .i64 (keyF c))) σ) : zy Tryz.prog zlf [.d (.int .i64 c)] σ K := c_rKey hK
theorem c_rqrSeal {σ : List zh} {id id2 : Nat} {L : List (List UInt8)} {G : List zS} {x : zt} (hT : σ[id]? = some (rtO L)) (hG : σ[id2]? = some (rlO G)) (h1 : id ≠ id2) (hL : zkB L) (hGl : G.length ≤ 1073741824)
  (hx : zkT x.op ≤ 20971520) {K : KT}
  (hK : K (.tup [zoW (zsX L x), .d (.int .i64 (zoX L x))]) ((σ.set id (rtO (sealL L x))).set id2 (rlO (sealG L G x)))) : zy Tryz.prog ziY [.box id 0, .box id2 0,reqA x] σ K := by
 refine zi zuc.is rfl fun hl _ => zuc.goes ?_
 have hsz := sizes hx
 simp only [zuP,iN,bT,bF,eN,reqA]
 (repeat' first | refine gq1 ?_ | with_reducible first | exact ⟨⟩ | refine zg ?_ | fail)
 refine zuu (x := x) hx ?_
 by_cases hc : zav x = 0
 ·have hb : (zav x != 0) = false := by simpa using hc
  have hrl := zqT (x := x) (by omega) hc
  (repeat' first | refine gq2 hb ?_ | with_reducible first | exact ⟨⟩ | refine zg ?_ | fail)
  refine c_rqrKey ?_
  rw [show zfR x = zrp x from if_pos hc]
  (repeat' first | refine gq1 ?_ | with_reducible first | exact ⟨⟩ | refine zg ?_ | fail)
  refine zkj (zf hT) (by omega) hL.len ?_
  rw [zbD hT]
  simp only [sealL,sealG,hc,ne_eq,not_true_eq_false,if_false] at hK
  have e1 : zoX L x = zeW (keyF x.client) (zew L (zrp x)) := by rw [zoX,if_neg (by simpa using hc)]
  rw [e1] at hK
  have hl1 : zfn σ.length (σ.set id (rtO (zfo L (zrp x)))) := hl.setO (zeG _ _)
  have hs1 : (σ.set id (rtO (zfo L (zrp x)))).length = σ.length := by simp
  have hG1 : (σ.set id (rtO (zfo L (zrp x))))[id2]? = some (rlO G) := by rw [List.getElem?_set_ne h1]; exact hG
  obtain ⟨S1,hS1⟩ : ∃ S1, σ.set id (rtO (zfo L (zrp x))) = S1 := ⟨_,rfl⟩
  rw [hS1] at hK hG1 hs1 hl1 ⊢
  have r1 : σ.length = S1.length := hs1.symm
  (repeat' first | refine gq2 r1 ?_ | with_reducible first | exact ⟨⟩ | refine zg ?_ | fail)
  refine c_rgSign (zf hG1) hGl ?_
  rw [zbD hG1]
  obtain ⟨N,hN⟩ : ∃ N,zeW (keyF x.client) (zew L (zrp x)) = N := ⟨_,rfl⟩
  have hl2 : zfn σ.length (S1.set id2 (rlO (zgT G (keyF x.client) (zew L (zrp x))))) := hl1.setO (rlO_low _ _)
  have hs2 : (S1.set id2 (rlO (zgT G (keyF x.client) (zew L (zrp x))))).length = S1.length := by simp
  obtain ⟨S2,hS2⟩ : ∃ S2,S1.set id2 (rlO (zgT G (keyF x.client) (zew L (zrp x)))) = S2 := ⟨_,rfl⟩
  rw [hS2] at hK hs2 hl2 ⊢
  have r2 : σ.length = S2.length := by rw [r1]; exact hs2.symm
  have r3 : S1.length = S2.length := hs2.symm
  rw [r2] at hl2
  rw [hN] at hK ⊢
  simp only [zvd]
  by_cases hN0 : N = 0
  ·have hq : (N != 0) = false := by simpa using hN0
   have e2 : zsX L x = ⟨x.client,x.time,x.op,keyF x.client,zew L (zrp x)⟩ := by rw [zsX,if_pos (by rw [e1,hN,hN0])]
   have e3 : signR (keyF x.client) (zew L (zrp x)) = ⟨keyF x.client,zew L (zrp x)⟩ := by rw [signR,if_pos (by rw [hN,hN0])]
   rw [e2] at hK
   rw [e3]
   (repeat' first | refine gq2 (zc hq (zc r2 r3)) ?_ | with_reducible first | exact ⟨⟩ | refine zg ?_ | fail)
   rw [hN0] at hK
   refine zcN rfl ?_ hl2 ?_
   ·simp [zcZ,dmT,dm,dm1,zcf,zbu,zeu]
   ·exact hK
  ·have hq : (N != 0) = true := by simpa using hN0
   have e2 : zsX L x = noSg := by rw [zsX,if_neg (by rw [e1,hN]; exact hN0)]
   rw [e2] at hK
   rw [show signR (keyF x.client) (zew L (zrp x)) = ⟨0, 0⟩ from by rw [signR,if_neg (by rw [hN]; exact hN0)]]
   (repeat' first | refine gq2 (zc hq (zc r2 r3)) ?_ | with_reducible first | exact ⟨⟩ | refine zg ?_ | fail)
   refine zcN rfl ?_ hl2 ?_
   ·simp [zcZ,dmT,dm,dm1,zcf,zbu,zeu]
   ·exact hK
 ·have hb : (zav x != 0) = true := by simpa using hc
  have e1 : zoX L x = zav x := if_pos hc
  have e2 : zsX L x = noSg := by rw [zsX,if_neg (by rw [e1]; exact hc)]
  rw [e1,e2,sealL,sealG,if_pos hc,if_pos hc,zbC hT,zbC hG] at hK
  (repeat' first | refine gq2 hb ?_ | with_reducible first | exact ⟨⟩ | refine zg ?_ | fail)
  (first | refine zX hl ?_ | refine zW hl ?_)
  exact hK
theorem gq37 {P Q : Prop} (h : Q) (e : P = Q := by simp -dsimp only [↓zen, ↓zaw, ↓zba, ↓zeo, ↓zej, ↓zeh, ↓zek, ↓zei, ↓zbf, ↓zbb, ↓zbg, ↓zbc, ↓zel, ↓zaZ, ↓zbh, ↓zbd, ↓zbi, ↓zbe, ↓zeg, ↓zem, ↓zaY, ↓zbj, ↓zee, ↓zed, ↓zef,iN,bT,bF,eN, ↓zcI, ↓unC, ↓zV, ↓zJ, ↓zK, ↓zN, ↓zaa, ↓zas, ↓zbH, ↓zah, ↓zaV, ↓zQ, ↓zp, ↓zo, ↓zbr, ↓zk, ↓zag, ↓zG, ↓zaB, ↓zaF, ↓ze, ↓zE, ↓zr, ↓zw, ↓zam, ↓zcs, ↓zcM, ↓zak, ↓zat, ↓zaE, ↓zaJ, ↓zaP, ↓zu, ↓zai, ↓zL, ↓zA, ↓zab,zcT,zaU,zaT,unA,zcW,bnd,zds,zae,zR,zdv,dm,dm1,zC,zaj,zdH,zdG,zM,Q0,Q1,Q2,Q3,Q4,Q5,zT,zq,zx,zO,zI,Q6,Q7,Q8,Q9,Q10,Q11,Q12,Q13,Q14,Nat.reduceAdd,Q15,Int.reduceToNat,Q16,Q17,Q18,Q19,Q20,reduceIte,Q21,Q22,zF,rep,zY,zdD,toD,zad,Q23,Q24,Q25,Q26,Q27,Q28,Nat.reduceLeDiff,Q29,Nat.reduceSub,Q30,Q31,Q32,sc,Q33,Q34,Q35,Q36,Q37,Q26,Q38,Q39,zfZ,zfW,zfT,zga,zbR,zfX,zfU,zfY,zfV,zbQ,zbS,zgb,zgc,Bool.not_true,Bool.not_false,List.length_map,beq_self_eq_true,bne_self_eq_false]; rfl) : P := e.mpr h
theorem c_rqrDigest {σ : List zh} {id : Nat} {L : List (List UInt8)} {l : List zt} (hT : σ[id]? = some (rtO L)) (hL : zkB L)
  (hx : ∀ s ∈ l,zkT s.op ≤ 20971520) (hll : l.length ≤ 1073741824) {K : KT} (hK : K (.tup [.d (.int .i64 (digD L l)), .d (.int .i64 (digE L l))]) (σ.set id (rtO (zuo L l)))) :
  zy Tryz.prog zlg [.box id 0, .d (.slice (zjv l))] σ K := by
 refine zi zqb.is rfl fun hl _ => zqb.goes ?_
 have hok : okB l := ⟨hll,fun s hs => sizes (hx s hs)⟩
 simp only [zqu,iN,bT,bF,eN]
 (repeat' first | refine gq1 ?_ | with_reducible first | exact ⟨⟩ | refine zg ?_ | fail)
 refine zop hok ?_
 by_cases hc : zaq l = 0
 ·have hq : (zaq l != 0) = false := by simpa using hc
  have hbl := zmR hx
  have hc' : ¬ zaq l ≠ 0 := by simpa using hc
  rw [show digD L l = zew L (zkA l) from if_neg hc',show zuo L l = zfo L (zkA l) from if_neg hc',show digE L l = if zew L (zkA l) = 0 then 6 else 0 from if_neg hc'] at hK
  (repeat' first | refine gq2 hq ?_ | with_reducible first | exact ⟨⟩ | refine zg ?_ | fail)
  refine c_rPutBatch (b := []) (by simp) hx hll ?_
  rw [List.nil_append,show zeN l = zkA l from if_pos hc] at *
  (repeat' first | refine gq1 ?_ | with_reducible first | exact ⟨⟩ | refine zg ?_ | fail)
  refine zkj hT (by omega) hL.len ?_
  have hl1 : zfn σ.length (σ.set id (rtO (zfo L (zkA l)))) := hl.setO (zeG _ _)
  by_cases h0 : zew L (zkA l) = 0
  ·rw [if_pos h0] at hK
   rw [h0] at hK ⊢
   (repeat' first | refine gq37 ?_ | with_reducible first | exact ⟨⟩ | refine zg ?_ | fail)
   refine zco (by simp) ?_ hl1 ?_
   ·simp [zcZ,dmT,dm,dm1,zcf,zbu]
   ·exact hK
  ·rw [if_neg h0] at hK
   have h0' : (zew L (zkA l) == 0) = false := by simpa using h0
   (repeat' first | refine gq2 h0' ?_ | with_reducible first | exact ⟨⟩ | refine zg ?_ | fail)
   refine zco (by simp) ?_ hl1 ?_
   ·simp [zcZ,dmT,dm,dm1,zcf,zbu]
   ·exact hK
 ·have hq : (zaq l != 0) = true := by simpa using hc
  rw [digD,digE,zuo,if_pos hc,if_pos hc,if_pos hc,zbC hT] at hK
  (repeat' first | refine gq2 hq ?_ | with_reducible first | exact ⟨⟩ | refine zg ?_ | fail)
  (first | refine zX hl ?_ | refine zW hl ?_)
  exact hK
end Go.Proofs.YtncpaekiidpchaaGreat
