/- Contracts: the bytes of requests, signatures and batches. -/
import Derived.Test.YtncpaekiidpchaaGreatOp1
import Derived.Test.YtncpaekiidpchaaGreatOpC
import Derived.Test.YtncpaekiidpchaaGreatSpUtf
import Derived.Test.YtncpaekiidpchaaGreatId4
import Derived.Test.YtncpaekiidpchaaGreatMk1
set_option linter.all false
set_option maxRecDepth 100000
namespace Go.Proofs.YtncpaekiidpchaaGreat
open Go.AW
def keyF (c : Int) : Int := if c < 0 ∨ c ≥ 8 then -1 else 13 + c
theorem sizes {x : zn} (h : zjK x.op ≤ 20971520) : okO x.op := by
 have h0 := h
 unfold zjK at h
 refine ⟨by omega,by omega, ?_,fun r hr => ?_⟩
 ·have := zjk x.op.recs; omega
 ·have := rec_le hr; omega
theorem ztk {σ : List zg} {x : zn} (hx : zjK x.op ≤ 20971520) {K : KT} (hK : K (.tup [.d (.slice (bcs (zfx x))), .d (.int .i64 (zas x))]) σ) : zD Tryz.prog zjq [reqA x] σ K := by
 refine zj zrc.is rfl fun hl _ => zrc.goes ?_
 have hsz := sizes hx
 simp only [zrH,iN,bT,bF,eN,reqA]
 (repeat' first | refine zsF ?_ | with_reducible first | exact ⟨⟩ | refine zh ?_ | fail)
 refine ztj (x := x) hsz ?_
 by_cases hc : zas x = 0
 ·obtain ⟨c0,c8,t1,t2,ho⟩ := req_ok hc
  have hb : (zas x != 0) = false := by simpa using hc
  have n1 := zx (n := x.client.toNat) (by omega)
  have n2 := zx (n := x.time.toNat) (by omega)
  have w1 : IntKind.u64.wrap x.client = ((x.client.toNat : Nat) : Int) := by
   rw [show x.client = ((x.client.toNat : Nat) : Int) by omega,zch (by omega)]; rfl
  have w2 : IntKind.u64.wrap x.time = ((x.time.toNat : Nat) : Int) := by
   rw [show x.time = ((x.time.toNat : Nat) : Int) by omega,zch (by omega)]; rfl
  rw [hc,zfx,if_pos hc] at hK
  (repeat' first | refine zfU (zdv hb (zdv w1 w2)) ?_ | with_reducible first | exact ⟨⟩ | refine zh ?_ | fail)
  refine zcx (b := []) (by omega) (by simp) ?_
  (repeat' first | refine zfU (zdv w1 w2) ?_ | with_reducible first | exact ⟨⟩ | refine zh ?_ | fail)
  refine zcx (by omega) (by first | omega | (simp; omega)) ?_
  (repeat' first | refine zfU (zdv w1 w2) ?_ | with_reducible first | exact ⟨⟩ | refine zh ?_ | fail)
  refine c_rPut (o := x.op) (by first | omega | (simp; omega)) (by omega) ?_
  (repeat' first | refine zsF ?_ | with_reducible first | exact ⟨⟩ | refine zh ?_ | fail)
  (first | refine zaq hl ?_ | refine zap hl ?_)
  rw [if_pos ho]
  exact hK
 ·have hb : (zas x != 0) = true := by simpa using hc
  rw [zfx,if_neg hc] at hK
  (repeat' first | refine zfU hb ?_ | with_reducible first | exact ⟨⟩ | refine zh ?_ | fail)
  (first | refine zaq hl ?_ | refine zap hl ?_)
  exact hK
theorem c_rPutSign {σ : List zg} {b : List UInt8} {k d : Int} (hb : b.length ≤ 1073741700) {K : KT} (hK : K (.d (.slice (bcs (b ++ zlo k d)))) σ) :
  zD Tryz.prog zjo [.d (.slice (bcs b)), .agg [.d (.int .i64 k), .d (.int .i64 d)]] σ K := by
 refine zj znv.is rfl fun hl _ => znv.goes ?_
 simp only [znT,iN,bT,bF,eN]
 (repeat' first | refine zsF ?_ | with_reducible first | exact ⟨⟩ | refine zh ?_ | fail)
 refine zma ?_
 by_cases hc : zar k d = 0
 ·obtain ⟨k0,k1,d0,d1⟩ := sign_ok hc
  have hq : (zar k d != 0) = false := by simpa using hc
  have n1 := zx (n := k.toNat) (by omega)
  have w1 : IntKind.u64.wrap k = ((k.toNat : Nat) : Int) := by
   rw [show k = ((k.toNat : Nat) : Int) by omega,zch (by omega)]; rfl
  have w2 : IntKind.u64.wrap d = ((d.toNat : Nat) : Int) := by
   rw [show d = ((d.toNat : Nat) : Int) by omega,zch (by omega)]; rfl
  rw [zlo,if_pos hc] at hK
  (repeat' first | refine zfU (zdv hq (zdv w1 w2)) ?_ | with_reducible first | exact ⟨⟩ | refine zh ?_ | fail)
  refine zcx (by omega) (by omega) ?_
  (repeat' first | refine zfU (zdv w1 w2) ?_ | with_reducible first | exact ⟨⟩ | refine zh ?_ | fail)
  refine zcx (by omega) (by first | omega | (simp; omega)) ?_
  (repeat' first | refine zsF ?_ | with_reducible first | exact ⟨⟩ | refine zh ?_ | fail)
  (first | refine zaq hl ?_ | refine zap hl ?_)
  exact hK
 ·have hq : (zar k d != 0) = true := by simpa using hc
  rw [zlo,if_neg hc,List.append_nil] at hK
  (repeat' first | refine zfU hq ?_ | with_reducible first | exact ⟨⟩ | refine zh ?_ | fail)
  (first | refine zaq hl ?_ | refine zap hl ?_)
  exact hK
theorem c_rPutBatch {σ : List zg} {b : List UInt8} {l : List zn} (hb : b.length ≤ 268435456) (hs : ∀ x ∈ l,zjK x.op ≤ 20971520) (hl0 : l.length ≤ 1073741824) {K : KT} (hK : K (.d (.slice (bcs (b ++ zez l)))) σ) :
  zD Tryz.prog zig [.d (.slice (bcs b)), .d (.slice (ziS l))] σ K := by
 refine zj zlP.is rfl fun hl _ => zlP.goes ?_
 have hok : okB l := ⟨hl0,fun x hx => sizes (hs x hx)⟩
 simp only [zmd,iN,bT,bF,eN]
 (repeat' first | refine zsF ?_ | with_reducible first | exact ⟨⟩ | refine zh ?_ | fail)
 refine znI hok ?_
 by_cases hc : zaj l = 0
 ·have hq : (zaj l != 0) = false := by simpa using hc
  obtain ⟨h4,hm,_⟩ := zux hc
  have n1 := zx (n := l.length) (by omega)
  have w1 : IntKind.u64.wrap (l.length : Int) = (l.length : Int) := zch (by omega)
  rw [zez,if_pos hc] at hK
  (repeat' first | refine zfU (zdv hq w1) ?_ | with_reducible first | exact ⟨⟩ | refine zh ?_ | fail)
  refine zcx (by omega) (by omega) ?_
  (repeat' first | refine zsF ?_ | with_reducible first | exact ⟨⟩ | refine zh ?_ | fail)
  refine zaT l.length (fun k vs s => (∃ T,s = σ ++ T) ∧ vs = [.d (.slice (bcs (b ++ (zcm l.length ++ zil (l.take k))))), .d (.int .i64 k)])
   (.data 0 _ _ rfl rfl (.refl _ _)) ⟨⟨_,rfl⟩,by simp [zil]⟩ ?_
  rintro k vs s hk ⟨⟨T,rfl⟩,rfl⟩
  by_cases hlt : k < l.length
  ·have hd : decide ((k : Int) < (l.length : Int)) = true := by simp; omega
   have hx : l[k]? = some l[k] := by simp [hlt]
   have hgx := zae (f := zic) hx
   have hxs := hs _ (List.getElem_mem hlt)
   have hxm := hm _ (List.getElem_mem hlt)
   obtain ⟨x,hxe⟩ : ∃ x,l[k] = x := ⟨_,rfl⟩
   rw [hxe] at hx hgx hxs hxm
   have hbl := zrv hs hc k
   have hrl := reqBytes_len hxs
   have hpl := zeP (x := zfx x) (by omega)
   obtain ⟨S,hS⟩ : ∃ S, σ ++ T = S := ⟨_,rfl⟩
   rw [hS]
   (repeat' first | refine gq30 (zdv hd hgx) ?_ | with_reducible first | exact ⟨⟩ | refine zh ?_ | fail)
   refine ztk (x := x) hxs ?_
   (repeat' first | refine gq30 (zdv hd hgx) ?_ | with_reducible first | exact ⟨⟩ | refine zh ?_ | fail)
   refine zfs (by omega) (by simp; omega) ?_
   (repeat' first | refine gq30 (zdv hd hgx) ?_ | with_reducible first | exact ⟨⟩ | refine zh ?_ | fail)
   refine c_rPutSign (by simp only [zna,List.length_append] at hpl ⊢; omega) ?_
   (repeat' first | refine zfU (wk1 k (by omega)) ?_ | with_reducible first | exact ⟨⟩ | refine zh ?_ | fail)
   refine zav.next hlt ⟨⟨_,by rw [← hS,List.append_assoc]⟩, ?_⟩
   rw [batchBs_snoc hx]
   simp [oneB,zna,zfx,zlo,hxm.1,hxm.2]
  ·have hd : decide ((k : Int) < (l.length : Int)) = false := by simp; omega
   rw [List.take_of_length_le (by omega)]
   (repeat' first | refine zfU hd ?_ | with_reducible first | exact ⟨⟩ | refine zh ?_ | fail)
   (first | refine zaq hl ?_ | refine zap hl ?_)
   exact hK
 ·have hq : (zaj l != 0) = true := by simpa using hc
  rw [zez,if_neg hc,List.append_nil] at hK
  (repeat' first | refine zfU hq ?_ | with_reducible first | exact ⟨⟩ | refine zh ?_ | fail)
  (first | refine zaq hl ?_ | refine zap hl ?_)
  exact hK
end Go.Proofs.YtncpaekiidpchaaGreat

/- Contracts: requests sealed, and whether they are valid; a batch's number. -/
set_option maxRecDepth 100000
namespace Go.Proofs.YtncpaekiidpchaaGreat
open Go.AW
theorem zcl.put {σ : List zg} {id m t : Nat} {l : List (List UInt8)} (h : zcl σ id m t l) (l' : List (List UInt8)) : zcl (putTab σ id m t l') id m t l' := by
 obtain ⟨n1,n2,n3⟩ := h.ne
 have h1 := zF h.box; have h2 := zF h.map; have h3 := zF h.tok
 unfold putTab
 refine ⟨?_, ?_, ?_⟩
 ·rw [List.getElem?_set_ne (Ne.symm n1),List.getElem?_set_self (by simpa using h1)]
 ·rw [List.getElem?_set_self (by simpa using h2)]
 ·rw [List.getElem?_set_ne n3,List.getElem?_set_ne n2,List.getElem?_set_self h3]
theorem zdV.put {σ : List zg} {id m t : Nat} {g : List zJ} (h : zdV σ id m t g) (g' : List zJ) : zdV (putLed σ id m t g') id m t g' := by
 obtain ⟨n1,n2,n3⟩ := h.ne
 have h1 := zF h.box; have h2 := zF h.map; have h3 := zF h.tok
 unfold putLed
 refine ⟨?_, ?_, ?_⟩
 ·rw [List.getElem?_set_self (by simpa using h1)]
 ·rw [List.getElem?_set_ne n1,List.getElem?_set_ne (Ne.symm n3),List.getElem?_set_self h2]
 ·rw [List.getElem?_set_ne n2,List.getElem?_set_self (by simpa using h3)]
theorem apart2 {σ : List zg} {id m t id2 m2 t2 : Nat} {l : List (List UInt8)} {g : List zJ} (hT : zcl σ id m t l) (hG : zdV σ id2 m2 t2 g) (h1 : id ≠ id2) (h2 : m ≠ m2) :
  (id ≠ m2 ∧ id ≠ t2) ∧ (m ≠ id2 ∧ m ≠ t2) ∧ (t ≠ id2 ∧ t ≠ m2 ∧ t ≠ t2) := by
 refine ⟨⟨?_, ?_⟩,⟨?_, ?_⟩,⟨?_, ?_, ?_⟩⟩ <;> intro e <;> subst e
 ·have := hT.box; rw [hG.map] at this; cases this
 ·have := hT.box; rw [hG.tok] at this; cases this
 ·have := hT.map; rw [hG.box] at this; cases this
 ·have := hT.map; rw [hG.tok] at this; cases this
 ·have := hT.tok; rw [hG.box] at this; cases this
 ·have := hT.tok; rw [hG.map] at this; cases this
 ·have := hT.tok; rw [hG.tok] at this; cases this
theorem zdV.putTab {σ : List zg} {id m t id2 m2 t2 : Nat} {l : List (List UInt8)} {g : List zJ} (hT : zcl σ id m t l) (hG : zdV σ id2 m2 t2 g) (h1 : id ≠ id2) (h2 : m ≠ m2) (l' : List (List UInt8)) :
  zdV (putTab σ id m t l') id2 m2 t2 g := by
 obtain ⟨⟨a1,a2⟩,⟨b1,b2⟩,⟨c1,c2,c3⟩⟩ := apart2 hT hG h1 h2
 unfold Go.Proofs.YtncpaekiidpchaaGreat.putTab
 refine ⟨?_, ?_, ?_⟩
 ·rw [List.getElem?_set_ne b1,List.getElem?_set_ne h1,List.getElem?_set_ne c1]; exact hG.box
 ·rw [List.getElem?_set_ne h2,List.getElem?_set_ne a1,List.getElem?_set_ne c2]; exact hG.map
 ·rw [List.getElem?_set_ne b2,List.getElem?_set_ne a2,List.getElem?_set_ne c3]; exact hG.tok
theorem zcl.putLed {σ : List zg} {id m t id2 m2 t2 : Nat} {l : List (List UInt8)} {g : List zJ} (hT : zcl σ id m t l) (hG : zdV σ id2 m2 t2 g) (h1 : id ≠ id2) (h2 : m ≠ m2) (g' : List zJ) :
  zcl (putLed σ id2 m2 t2 g') id m t l := by
 obtain ⟨⟨a1,a2⟩,⟨b1,b2⟩,⟨c1,c2,c3⟩⟩ := apart2 hT hG h1 h2
 unfold Go.Proofs.YtncpaekiidpchaaGreat.putLed
 refine ⟨?_, ?_, ?_⟩
 ·rw [List.getElem?_set_ne (Ne.symm h1),List.getElem?_set_ne (Ne.symm a2),List.getElem?_set_ne (Ne.symm a1)]; exact hT.box
 ·rw [List.getElem?_set_ne (Ne.symm b1),List.getElem?_set_ne (Ne.symm b2),List.getElem?_set_ne (Ne.symm h2)]; exact hT.map
 ·rw [List.getElem?_set_ne (Ne.symm c1),List.getElem?_set_ne (Ne.symm c3),List.getElem?_set_ne (Ne.symm c2)]; exact hT.tok
def noSg : zn := ⟨0, 0,noOp, 0, 0⟩
def zos (L : List (List UInt8)) (x : zn) : Int := if zas x ≠ 0 then zas x else zdu (keyF x.client) (zcI L (zqw x))
def zrT (L : List (List UInt8)) (x : zn) : zn := if zos L x = 0 then ⟨x.client,x.time,x.op,keyF x.client,zcI L (zqw x)⟩ else noSg
def sealL (L : List (List UInt8)) (x : zn) : List (List UInt8) := if zas x ≠ 0 then L else zdH L (zqw x)
def zrU (L : List (List UInt8)) (G : List zJ) (x : zn) : List zJ := if zas x ≠ 0 then G else zeL G (keyF x.client) (zcI L (zqw x))
structure zkk (L : List (List UInt8)) : Prop where
 nd : L.Nodup
 len : L.length ≤ 1048576
 each : ∀ b ∈ L,b.length ≤ 1073741824
theorem zkk.nil : zkk [] := ⟨.nil,by simp,by simp⟩
theorem zkk.sum {L : List (List UInt8)} (h : zkk L) {b : List UInt8} (hb : b.length ≤ 1073741824) : zkk (zdH L b) := by
 unfold zdH
 cases ho : zcu L b with
 | some k => exact h
 | none =>
  simp only
  split
  ·exact h
  ·rename_i hl
   have hn : b ∉ L := fun hm => by
    obtain ⟨i,hi⟩ := List.mem_iff_getElem?.1 hm
    exact ztY ho hm
   refine ⟨?_,by simp; omega,fun x hx => ?_⟩
   ·rw [List.nodup_append]
    refine ⟨h.nd,by simp,fun a ha c hc => ?_⟩
    simp at hc; subst hc
    exact fun e => hn (e ▸ ha)
   ·rcases List.mem_append.1 hx with hx | hx
    ·exact h.each x hx
    ·simp at hx; subst hx; exact hb
end Go.Proofs.YtncpaekiidpchaaGreat

/- Contracts: the digest of leaves, on both sides. -/
set_option maxRecDepth 100000
namespace Go.Proofs.YtncpaekiidpchaaGreat
open Go.AW
theorem zmU {L : List (List UInt8)} (h : L.length ≤ 1048576) (b : List UInt8) : (zdH L b).length ≤ 1048576 := by
 unfold zdH
 split
 ·exact h
 ·split
  ·exact h
  ·simp; omega
theorem zoo {L : List (List UInt8)} (h : L.length ≤ 1048576) (b : List UInt8) : 0 ≤ zcI L b ∧ zcI L b ≤ 1048577 := by
 unfold zcI
 split
 ·rename_i i hi
  have := (zjy hi).1
  omega
 ·split
  ·omega
  ·omega
theorem zcs : ∀ (f : Nat) {L l : List (List UInt8)},l.length ≤ f → L.length ≤ 1048576 → (rootF L l).2.length ≤ 1048576 ∧ 0 ≤ (rootF L l).1 ∧ (rootF L l).1 ≤ 1048577
 | _,L, [],_,h => ⟨zmU h _,zoo h _⟩
 | _,L, [x],_,h => ⟨zmU h _,zoo h _⟩
 | 0,L,x :: y :: r,hf,h => by simp at hf
 | f + 1,L,x :: y :: r,hf,h => by
  have hs := zbX (n := (x :: y :: r).length) (by simp)
  rw [zot (by simp)]
  have h1 := (zcs f (L := L) (l := (x :: y :: r).take (zi (x :: y :: r).length)) (by rw [List.length_take]; omega) h).1
  have h2 := (zcs f (L := (rootF L ((x :: y :: r).take (zi (x :: y :: r).length))).2) (l := (x :: y :: r).drop (zi (x :: y :: r).length)) (by rw [List.length_drop]; omega) h1).1
  exact ⟨zmU h2 _,zoo h2 _⟩
theorem c_r5Leaf {σ : List zg} {id : Nat} {L : List (List UInt8)} {b : List UInt8} (hT : σ[id]? = some (rtO L)) (hL : L.length ≤ 1048576) (hb : b.length ≤ 1073740000) {K : KT}
  (hK : K (.d (.int .i64 (zcI L (zkj b)))) (σ.set id (rtO (zdH L (zkj b))))) : zD Tryz.prog zoD [.box id 0, .d (.slice (bcs b))] σ K := by
 refine zj zsZ.is rfl fun hl _ => zsZ.goes ?_
 simp only [ztD,iN,bT,bF,eN]
 (repeat' first | refine gq1 ?_ | with_reducible first | exact ⟨⟩ | refine zh ?_ | fail)
 refine c_r5leaf (by omega) ?_
 (repeat' first | refine gq1 ?_ | with_reducible first | exact ⟨⟩ | refine zh ?_ | fail)
 refine zjF hT (by simp [zkj]; omega) hL ?_
 (repeat' first | refine gq1 ?_ | with_reducible first | exact ⟨⟩ | refine zh ?_ | fail)
 exact zcj (by simp) (by simp [zdh,dmT,dm,dm1,zca]) (hl.setO (zfh _ _)) hK
theorem c_r5Node {σ : List zg} {id : Nat} {L : List (List UInt8)} {l r : Int} (hT : σ[id]? = some (rtO L)) (hL : L.length ≤ 1048576) (hl1 : l ≤ 9223372036854775807) (hr1 : r ≤ 9223372036854775807) {K : KT}
  (hK : K (.d (.int .i64 (zcI L (zhB l r)))) (σ.set id (rtO (zdH L (zhB l r))))) : zD Tryz.prog zoC [.box id 0, .d (.int .i64 l), .d (.int .i64 r)] σ K := by
 refine zj zsY.is rfl fun hl _ => zsY.goes ?_
 have n1 := zx (n := l.toNat) (by omega)
 have n2 := zx (n := r.toNat) (by omega)
 simp only [ztC,iN,bT,bF,eN]
 (repeat' first | refine gq1 ?_ | with_reducible first | exact ⟨⟩ | refine zh ?_ | fail)
 refine c_r5node hl1 hr1 ?_
 (repeat' first | refine gq1 ?_ | with_reducible first | exact ⟨⟩ | refine zh ?_ | fail)
 refine zjF hT (by simp [zhB]; omega) hL ?_
 (repeat' first | refine gq1 ?_ | with_reducible first | exact ⟨⟩ | refine zh ?_ | fail)
 exact zcj (by simp) (by simp [zdh,dmT,dm,dm1,zca]) (hl.setO (zfh _ _)) hK
theorem c_r5RootA : ∀ (f : Nat) {σ : List zg} {id : Nat} {L l : List (List UInt8)},l.length ≤ f → σ[id]? = some (rtO L) → L.length ≤ 1048576 → l.length ≤ 1073741824 → (∀ x ∈ l,x.length ≤ 1073740000) → ∀ {K : KT},
  K (.d (.int .i64 (rootF L l).1)) (σ.set id (rtO (rootF L l).2)) → zD Tryz.prog zfn [.box id 0, .d (.slice (zdt l))] σ K := by
 intro f
 induction f with
 | zero =>
  intro σ id L l hf hT hL hn hx K hK
  have : l = [] := List.eq_nil_of_length_eq_zero (by omega)
  subst this
  refine zj zeH.is rfl fun hl _ => zeH.goes ?_
  simp only [ziZ,iN,bT,bF,eN]
  (repeat' first | refine gq1 ?_ | with_reducible first | exact ⟨⟩ | refine zh ?_ | fail)
  refine zjF (b := [2]) hT (by simp) hL ?_
  (repeat' first | refine gq1 ?_ | with_reducible first | exact ⟨⟩ | refine zh ?_ | fail)
  exact zcj (by simp) (by simp [zdh,dmT,dm,dm1,zca]) (hl.setO (zfh _ _)) hK
 | succ f ih =>
  intro σ id L l hf hT hL hn hx K hK
  match l,hf,hn,hx,hK with
  | [],_,_,_,hK =>
   refine zj zeH.is rfl fun hl _ => zeH.goes ?_
   simp only [ziZ,iN,bT,bF,eN]
   (repeat' first | refine gq1 ?_ | with_reducible first | exact ⟨⟩ | refine zh ?_ | fail)
   refine zjF (b := [2]) hT (by simp) hL ?_
   (repeat' first | refine gq1 ?_ | with_reducible first | exact ⟨⟩ | refine zh ?_ | fail)
   exact zcj (by simp) (by simp [zdh,dmT,dm,dm1,zca]) (hl.setO (zfh _ _)) hK
  | [x],_,_,hx,hK =>
   refine zj zeH.is rfl fun hl _ => zeH.goes ?_
   simp only [ziZ,iN,bT,bF,eN]
   (repeat' first | refine gq1 ?_ | with_reducible first | exact ⟨⟩ | refine zh ?_ | fail)
   refine c_r5Leaf (b := x) hT hL (hx x (by simp)) ?_
   (repeat' first | refine gq1 ?_ | with_reducible first | exact ⟨⟩ | refine zh ?_ | fail)
   exact zcj (by simp) (by simp [zdh,dmT,dm,dm1,zca]) (hl.setO (zfh _ _)) hK
  | x :: y :: r,hf,hn,hx,hK =>
   obtain ⟨l,hle⟩ : ∃ l,x :: y :: r = l := ⟨_,rfl⟩
   have h2 : 2 ≤ l.length := by rw [← hle]; simp
   rw [hle] at hf hn hx hK ⊢
   clear hle
   have hs := zbX h2
   rw [zot h2] at hK
   refine zj zeH.is rfl fun hl _ => zeH.goes ?_
   have hlen : (zdt l).length = l.length := List.length_map ..
   have e0 : ((l.length : Int) == 0) = false := by rw [beq_eq_false_iff_ne]; omega
   have e1 : ((l.length : Int) == 1) = false := by rw [beq_eq_false_iff_ne]; omega
   have htk : List.take (zi l.length) (zdt l) = zdt (l.take (zi l.length)) := by rw [zdt, ← List.map_take]
   have hdr : List.drop (zi l.length) (zdt l) = zdt (l.drop (zi l.length)) := by rw [zdt, ← List.map_drop]
   have htl : List.take l.length (zdt l) = zdt l := List.take_of_length_le (by omega)
   have hone : ∀ e ∈ zdt l,e.length = 1 := zif (f := fun b => [D.slice (bcs b)]) (fun _ => rfl) l
   have hl1 : (l.take (zi l.length)).length = zi l.length := by rw [List.length_take]; omega
   have hl2 : (l.drop (zi l.length)).length = l.length - zi l.length := List.length_drop
   obtain ⟨g1,g2,g3⟩ := zcs l.length (L := L) (l := l.take (zi l.length)) (by omega) hL
   simp only [ziZ,iN,bT,bF,eN]
   (repeat' first | refine gq2 (zd hlen (zd e0 e1)) ?_ | with_reducible first | exact ⟨⟩ | refine zh ?_ | fail)
   refine c_r5Split (by omega) ?_
   (repeat' first | refine gq2 (zd hlen htk) ?_ | with_reducible first | exact ⟨⟩ | refine zh ?_ | fail)
   refine ih (by omega) hT hL (by omega) (fun z hz => hx z (List.mem_of_mem_take hz)) ?_
   obtain ⟨A,hA⟩ : ∃ A,rootF L (l.take (zi l.length)) = A := ⟨_,rfl⟩
   rw [hA] at hK g1 g2 g3 ⊢
   obtain ⟨q1,q2,q3⟩ := zcs l.length (L := A.2) (l := l.drop (zi l.length)) (by omega) g1
   (repeat' first | refine gq2 (zd hlen (zd htl hdr)) ?_ | with_reducible first | exact ⟨⟩ | refine zh ?_ | fail)
   refine ih (by omega) (zbz hT) g1 (by omega) (fun z hz => hx z (List.mem_of_mem_drop hz)) ?_
   obtain ⟨B,hB⟩ : ∃ B,rootF A.2 (l.drop (zi l.length)) = B := ⟨_,rfl⟩
   rw [hB] at hK q1 q2 q3 ⊢
   rw [List.set_set]
   (repeat' first | refine gq1 ?_ | with_reducible first | exact ⟨⟩ | refine zh ?_ | fail)
   refine c_r5Node (zbz hT) q1 (by omega) (by omega) ?_
   rw [List.set_set]
   (repeat' first | refine gq1 ?_ | with_reducible first | exact ⟨⟩ | refine zh ?_ | fail)
   exact zcj (by simp) (by simp [zdh,dmT,dm,dm1,zca]) (hl.setO (zfh _ _)) hK
theorem c_r5Root {σ : List zg} {id : Nat} {L l : List (List UInt8)} (hT : σ[id]? = some (rtO L)) (hL : L.length ≤ 1048576) (hn : l.length ≤ 1073741824) (hx : ∀ x ∈ l,x.length ≤ 1073740000) {K : KT}
  (hK : K (.d (.int .i64 (rootF L l).1)) (σ.set id (rtO (rootF L l).2))) : zD Tryz.prog zfn [.box id 0, .d (.slice (zdt l))] σ K := c_r5RootA l.length (Nat.le_refl _) hT hL hn hx hK
theorem zsn {σ : List zg} {id m t : Nat} {L : List (List UInt8)} (hT : zcl σ id m t L) (L1 L2 : List (List UInt8)) : putTab (putTab σ id m t L1) id m t L2 = putTab σ id m t L2 := by
 obtain ⟨n1,n2,n3⟩ := hT.ne
 unfold putTab
 apply List.ext_getElem?
 intro i
 simp only [List.getElem?_set,List.length_set]
 by_cases h1 : m = i
 ·simp [h1]
 ·by_cases h2 : id = i
  ·simp [h1,h2]
  ·by_cases h3 : t = i
   ·simp [h1,h2,h3]
   ·simp [h1,h2,h3]
theorem c_mkLeaf {σ : List zg} {id m t : Nat} {L : List (List UInt8)} {b : List UInt8} (hT : zcl σ id m t L) (hL : L.length ≤ 1048576) (hb : b.length ≤ 1073740000) {K : KT}
  (hK : K (.d (.int .i64 (zcI L (zkj b)))) (putTab σ id m t (zdH L (zkj b)))) : zD Tryz.prog zju [.box id 0, .d (.slice (bcs b))] σ K := by
 refine zj znB.is rfl fun hl _ => znB.goes ?_
 simp only [znZ,iN,bT,bF,eN]
 (repeat' first | refine gq1 ?_ | with_reducible first | exact ⟨⟩ | refine zh ?_ | fail)
 refine c_mkleaf (by omega) ?_
 (repeat' first | refine gq1 ?_ | with_reducible first | exact ⟨⟩ | refine zh ?_ | fail)
 refine zti hT (by simp [zkj]; omega) hL ?_
 (repeat' first | refine gq1 ?_ | with_reducible first | exact ⟨⟩ | refine zh ?_ | fail)
 exact zcj (zco ..) (by simp [zdh,dmT,dm,dm1,zca]) (hT.lows hl _) hK
theorem c_mkNode {σ : List zg} {id m t : Nat} {L : List (List UInt8)} {l r : Int} (hT : zcl σ id m t L) (hL : L.length ≤ 1048576) (hl1 : l ≤ 9223372036854775807) (hr1 : r ≤ 9223372036854775807) {K : KT}
  (hK : K (.d (.int .i64 (zcI L (zhB l r)))) (putTab σ id m t (zdH L (zhB l r)))) : zD Tryz.prog zjt [.box id 0, .d (.int .i64 l), .d (.int .i64 r)] σ K := by
 refine zj znA.is rfl fun hl _ => znA.goes ?_
 have n1 := zx (n := l.toNat) (by omega)
 have n2 := zx (n := r.toNat) (by omega)
 simp only [znY,iN,bT,bF,eN]
 (repeat' first | refine gq1 ?_ | with_reducible first | exact ⟨⟩ | refine zh ?_ | fail)
 refine zuq hl1 hr1 ?_
 (repeat' first | refine gq1 ?_ | with_reducible first | exact ⟨⟩ | refine zh ?_ | fail)
 refine zti hT (by simp [zhB]; omega) hL ?_
 (repeat' first | refine gq1 ?_ | with_reducible first | exact ⟨⟩ | refine zh ?_ | fail)
 exact zcj (zco ..) (by simp [zdh,dmT,dm,dm1,zca]) (hT.lows hl _) hK
theorem c_mkRootA : ∀ (f : Nat) {σ : List zg} {id m t : Nat} {L l : List (List UInt8)},l.length ≤ f → zcl σ id m t L → L.length ≤ 1048576 → l.length ≤ 1073741824 → (∀ x ∈ l,x.length ≤ 1073740000) → ∀ {K : KT},
  K (.d (.int .i64 (rootF L l).1)) (putTab σ id m t (rootF L l).2) → zD Tryz.prog zcZ [.box id 0, .d (.slice (zdt l))] σ K := by
 intro f
 induction f with
 | zero =>
  intro σ id m t L l hf hT hL hn hx K hK
  have : l = [] := List.eq_nil_of_length_eq_zero (by omega)
  subst this
  refine zj zcw.is rfl fun hl _ => zcw.goes ?_
  simp only [zfa,iN,bT,bF,eN]
  (repeat' first | refine gq1 ?_ | with_reducible first | exact ⟨⟩ | refine zh ?_ | fail)
  refine zti (b := [2]) hT (by simp) hL ?_
  (repeat' first | refine gq1 ?_ | with_reducible first | exact ⟨⟩ | refine zh ?_ | fail)
  exact zcj (zco ..) (by simp [zdh,dmT,dm,dm1,zca]) (hT.lows hl _) hK
 | succ f ih =>
  intro σ id m t L l hf hT hL hn hx K hK
  match l,hf,hn,hx,hK with
  | [],_,_,_,hK =>
   refine zj zcw.is rfl fun hl _ => zcw.goes ?_
   simp only [zfa,iN,bT,bF,eN]
   (repeat' first | refine gq1 ?_ | with_reducible first | exact ⟨⟩ | refine zh ?_ | fail)
   refine zti (b := [2]) hT (by simp) hL ?_
   (repeat' first | refine gq1 ?_ | with_reducible first | exact ⟨⟩ | refine zh ?_ | fail)
   exact zcj (zco ..) (by simp [zdh,dmT,dm,dm1,zca]) (hT.lows hl _) hK
  | [x],_,_,hx,hK =>
   refine zj zcw.is rfl fun hl _ => zcw.goes ?_
   simp only [zfa,iN,bT,bF,eN]
   (repeat' first | refine gq1 ?_ | with_reducible first | exact ⟨⟩ | refine zh ?_ | fail)
   refine c_mkLeaf (b := x) hT hL (hx x (by simp)) ?_
   (repeat' first | refine gq1 ?_ | with_reducible first | exact ⟨⟩ | refine zh ?_ | fail)
   exact zcj (zco ..) (by simp [zdh,dmT,dm,dm1,zca]) (hT.lows hl _) hK
  | x :: y :: r,hf,hn,hx,hK =>
   obtain ⟨l,hle⟩ : ∃ l,x :: y :: r = l := ⟨_,rfl⟩
   have h2 : 2 ≤ l.length := by rw [← hle]; simp
   rw [hle] at hf hn hx hK ⊢
   clear hle
   have hs := zbX h2
   rw [zot h2] at hK
   refine zj zcw.is rfl fun hl _ => zcw.goes ?_
   have hlen : (zdt l).length = l.length := List.length_map ..
   have e0 : ((l.length : Int) == 0) = false := by rw [beq_eq_false_iff_ne]; omega
   have e1 : ((l.length : Int) == 1) = false := by rw [beq_eq_false_iff_ne]; omega
   have htk : List.take (zi l.length) (zdt l) = zdt (l.take (zi l.length)) := by rw [zdt, ← List.map_take]
   have hdr : List.drop (zi l.length) (zdt l) = zdt (l.drop (zi l.length)) := by rw [zdt, ← List.map_drop]
   have htl : List.take l.length (zdt l) = zdt l := List.take_of_length_le (by omega)
   have hone : ∀ e ∈ zdt l,e.length = 1 := zif (f := fun b => [D.slice (bcs b)]) (fun _ => rfl) l
   have hl1 : (l.take (zi l.length)).length = zi l.length := by rw [List.length_take]; omega
   have hl2 : (l.drop (zi l.length)).length = l.length - zi l.length := List.length_drop
   obtain ⟨g1,g2,g3⟩ := zcs l.length (L := L) (l := l.take (zi l.length)) (by omega) hL
   simp only [zfa,iN,bT,bF,eN]
   (repeat' first | refine gq2 (zd hlen (zd e0 e1)) ?_ | with_reducible first | exact ⟨⟩ | refine zh ?_ | fail)
   refine znJ (by omega) ?_
   (repeat' first | refine gq2 (zd hlen htk) ?_ | with_reducible first | exact ⟨⟩ | refine zh ?_ | fail)
   refine ih (by omega) hT hL (by omega) (fun z hz => hx z (List.mem_of_mem_take hz)) ?_
   obtain ⟨A,hA⟩ : ∃ A,rootF L (l.take (zi l.length)) = A := ⟨_,rfl⟩
   rw [hA] at hK g1 g2 g3 ⊢
   obtain ⟨q1,q2,q3⟩ := zcs l.length (L := A.2) (l := l.drop (zi l.length)) (by omega) g1
   (repeat' first | refine gq2 (zd hlen (zd htl hdr)) ?_ | with_reducible first | exact ⟨⟩ | refine zh ?_ | fail)
   refine ih (by omega) (hT.put A.2) g1 (by omega) (fun z hz => hx z (List.mem_of_mem_drop hz)) ?_
   obtain ⟨B,hB⟩ : ∃ B,rootF A.2 (l.drop (zi l.length)) = B := ⟨_,rfl⟩
   rw [hB] at hK q1 q2 q3 ⊢
   rw [zsn hT]
   (repeat' first | refine gq1 ?_ | with_reducible first | exact ⟨⟩ | refine zh ?_ | fail)
   refine c_mkNode (hT.put B.2) q1 (by omega) (by omega) ?_
   rw [zsn hT]
   (repeat' first | refine gq1 ?_ | with_reducible first | exact ⟨⟩ | refine zh ?_ | fail)
   exact zcj (zco ..) (by simp [zdh,dmT,dm,dm1,zca]) (hT.lows hl _) hK
theorem c_mkRoot {σ : List zg} {id m t : Nat} {L l : List (List UInt8)} (hT : zcl σ id m t L) (hL : L.length ≤ 1048576) (hn : l.length ≤ 1073741824) (hx : ∀ x ∈ l,x.length ≤ 1073740000) {K : KT}
  (hK : K (.d (.int .i64 (rootF L l).1)) (putTab σ id m t (rootF L l).2)) : zD Tryz.prog zcZ [.box id 0, .d (.slice (zdt l))] σ K := c_mkRootA l.length (Nat.le_refl _) hT hL hn hx hK
end Go.Proofs.YtncpaekiidpchaaGreat
