/- Contracts: the bytes of requests, signatures and batches. -/
import Derived.Test.YtncpaekiidpchaaGreatOp1
import Derived.Test.YtncpaekiidpchaaGreatOpC
import Derived.Test.YtncpaekiidpchaaGreatSpUtf
import Derived.Test.YtncpaekiidpchaaGreatId4
set_option linter.all false
set_option maxRecDepth 100000
namespace Go.Proofs.YtncpaekiidpchaaGreat
open Go.AW
def keyF (c : Int) : Int := if c < 0 ∨ c ≥ 8 then -1 else 13 + c
theorem sizes {x : zt} (h : zkT x.op ≤ 20971520) : okO x.op := by
 have h0 := h
 unfold zkT at h
 refine ⟨by omega,by omega, ?_,fun r hr => ?_⟩
 ·have := zjP x.op.recs; omega
 ·have := rec_le hr; omega
theorem zuu {σ : List zh} {x : zt} (hx : zkT x.op ≤ 20971520) {K : KT} (hK : K (.tup [.d (.slice (bcs (zfR x))), .d (.int .i64 (zav x))]) σ) : zy Tryz.prog zjW [reqA x] σ K := by
 refine zi zrZ.is rfl fun hl _ => zrZ.goes ?_
 have hsz := sizes hx
 simp only [zsK,iN,bT,bF,eN,reqA]
 (repeat' first | refine zib ?_ | with_reducible first | exact ⟨⟩ | refine zg ?_ | fail)
 refine zut (x := x) hsz ?_
 by_cases hc : zav x = 0
 ·obtain ⟨c0,c8,t1,t2,ho⟩ := req_ok hc
  have hb : (zav x != 0) = false := by simpa using hc
  have n1 := zD (n := x.client.toNat) (by omega)
  have n2 := zD (n := x.time.toNat) (by omega)
  have w1 : IntKind.u64.wrap x.client = ((x.client.toNat : Nat) : Int) := by
   rw [show x.client = ((x.client.toNat : Nat) : Int) by omega,zcn (by omega)]; rfl
  have w2 : IntKind.u64.wrap x.time = ((x.time.toNat : Nat) : Int) := by
   rw [show x.time = ((x.time.toNat : Nat) : Int) by omega,zcn (by omega)]; rfl
  rw [hc,zfR,if_pos hc] at hK
  (repeat' first | refine zcY (zbz hb (zbz w1 w2)) ?_ | with_reducible first | exact ⟨⟩ | refine zg ?_ | fail)
  refine zcC (b := []) (by omega) (by simp) ?_
  (repeat' first | refine zcY (zbz w1 w2) ?_ | with_reducible first | exact ⟨⟩ | refine zg ?_ | fail)
  refine zcC (by omega) (by first | omega | (simp; omega)) ?_
  (repeat' first | refine zcY (zbz w1 w2) ?_ | with_reducible first | exact ⟨⟩ | refine zg ?_ | fail)
  refine c_rPut (o := x.op) (by first | omega | (simp; omega)) (by omega) ?_
  (repeat' first | refine zib ?_ | with_reducible first | exact ⟨⟩ | refine zg ?_ | fail)
  (first | refine zX hl ?_ | refine zW hl ?_)
  rw [if_pos ho]
  exact hK
 ·have hb : (zav x != 0) = true := by simpa using hc
  rw [zfR,if_neg hc] at hK
  (repeat' first | refine zcY hb ?_ | with_reducible first | exact ⟨⟩ | refine zg ?_ | fail)
  (first | refine zX hl ?_ | refine zW hl ?_)
  exact hK
theorem c_rPutSign {σ : List zh} {b : List UInt8} {k d : Int} (hb : b.length ≤ 1073741700) {K : KT} (hK : K (.d (.slice (bcs (b ++ zmd k d)))) σ) :
  zy Tryz.prog zjU [.d (.slice (bcs b)), .agg [.d (.int .i64 k), .d (.int .i64 d)]] σ K := by
 refine zi zob.is rfl fun hl _ => zob.goes ?_
 simp only [zoE,iN,bT,bF,eN]
 (repeat' first | refine zib ?_ | with_reducible first | exact ⟨⟩ | refine zg ?_ | fail)
 refine ziM ?_
 by_cases hc : zao k d = 0
 ·obtain ⟨k0,k1,d0,d1⟩ := sign_ok hc
  have hq : (zao k d != 0) = false := by simpa using hc
  have n1 := zD (n := k.toNat) (by omega)
  have w1 : IntKind.u64.wrap k = ((k.toNat : Nat) : Int) := by
   rw [show k = ((k.toNat : Nat) : Int) by omega,zcn (by omega)]; rfl
  have w2 : IntKind.u64.wrap d = ((d.toNat : Nat) : Int) := by
   rw [show d = ((d.toNat : Nat) : Int) by omega,zcn (by omega)]; rfl
  rw [zmd,if_pos hc] at hK
  (repeat' first | refine zcY (zbz hq (zbz w1 w2)) ?_ | with_reducible first | exact ⟨⟩ | refine zg ?_ | fail)
  refine zcC (by omega) (by omega) ?_
  (repeat' first | refine zcY (zbz w1 w2) ?_ | with_reducible first | exact ⟨⟩ | refine zg ?_ | fail)
  refine zcC (by omega) (by first | omega | (simp; omega)) ?_
  (repeat' first | refine zib ?_ | with_reducible first | exact ⟨⟩ | refine zg ?_ | fail)
  (first | refine zX hl ?_ | refine zW hl ?_)
  exact hK
 ·have hq : (zao k d != 0) = true := by simpa using hc
  rw [zmd,if_neg hc,List.append_nil] at hK
  (repeat' first | refine zcY hq ?_ | with_reducible first | exact ⟨⟩ | refine zg ?_ | fail)
  (first | refine zX hl ?_ | refine zW hl ?_)
  exact hK
theorem c_rPutBatch {σ : List zh} {b : List UInt8} {l : List zt} (hb : b.length ≤ 268435456) (hs : ∀ x ∈ l,zkT x.op ≤ 20971520) (hl0 : l.length ≤ 1073741824) {K : KT} (hK : K (.d (.slice (bcs (b ++ zeN l)))) σ) :
  zy Tryz.prog ziH [.d (.slice (bcs b)), .d (.slice (zjv l))] σ K := by
 refine zi zmG.is rfl fun hl _ => zmG.goes ?_
 have hok : okB l := ⟨hl0,fun x hx => sizes (hs x hx)⟩
 simp only [zmT,iN,bT,bF,eN]
 (repeat' first | refine zib ?_ | with_reducible first | exact ⟨⟩ | refine zg ?_ | fail)
 refine zop hok ?_
 by_cases hc : zaq l = 0
 ·have hq : (zaq l != 0) = false := by simpa using hc
  obtain ⟨h4,hm,_⟩ := zvP hc
  have n1 := zD (n := l.length) (by omega)
  have w1 : IntKind.u64.wrap (l.length : Int) = (l.length : Int) := zcn (by omega)
  rw [zeN,if_pos hc] at hK
  (repeat' first | refine zcY (zbz hq w1) ?_ | with_reducible first | exact ⟨⟩ | refine zg ?_ | fail)
  refine zcC (by omega) (by omega) ?_
  (repeat' first | refine zib ?_ | with_reducible first | exact ⟨⟩ | refine zg ?_ | fail)
  refine zaI l.length (fun k vs s => (∃ T,s = σ ++ T) ∧ vs = [.d (.slice (bcs (b ++ (zcr l.length ++ ziN (l.take k))))), .d (.int .i64 k)])
   (.data 0 _ _ rfl rfl (.refl _ _)) ⟨⟨_,rfl⟩,by simp [ziN]⟩ ?_
  rintro k vs s hk ⟨⟨T,rfl⟩,rfl⟩
  by_cases hlt : k < l.length
  ·have hd : decide ((k : Int) < (l.length : Int)) = true := by simp; omega
   have hx : l[k]? = some l[k] := by simp [hlt]
   have hgx := zU (f := ziF) hx
   have hxs := hs _ (List.getElem_mem hlt)
   have hxm := hm _ (List.getElem_mem hlt)
   obtain ⟨x,hxe⟩ : ∃ x,l[k] = x := ⟨_,rfl⟩
   rw [hxe] at hx hgx hxs hxm
   have hbl := zsw hs hc k
   have hrl := reqBytes_len hxs
   have hpl := zeX (x := zfR x) (by omega)
   obtain ⟨S,hS⟩ : ∃ S, σ ++ T = S := ⟨_,rfl⟩
   rw [hS]
   (repeat' first | refine gq30 (zbz hd hgx) ?_ | with_reducible first | exact ⟨⟩ | refine zg ?_ | fail)
   refine zuu (x := x) hxs ?_
   (repeat' first | refine gq30 (zbz hd hgx) ?_ | with_reducible first | exact ⟨⟩ | refine zg ?_ | fail)
   refine zfK (by omega) (by simp; omega) ?_
   (repeat' first | refine gq30 (zbz hd hgx) ?_ | with_reducible first | exact ⟨⟩ | refine zg ?_ | fail)
   refine c_rPutSign (by simp only [znI,List.length_append] at hpl ⊢; omega) ?_
   (repeat' first | refine zcY (wk1 k (by omega)) ?_ | with_reducible first | exact ⟨⟩ | refine zg ?_ | fail)
   refine zap.next hlt ⟨⟨_,by rw [← hS,List.append_assoc]⟩, ?_⟩
   rw [batchBs_snoc hx]
   simp [oneB,znI,zfR,zmd,hxm.1,hxm.2]
  ·have hd : decide ((k : Int) < (l.length : Int)) = false := by simp; omega
   rw [List.take_of_length_le (by omega)]
   (repeat' first | refine zcY hd ?_ | with_reducible first | exact ⟨⟩ | refine zg ?_ | fail)
   (first | refine zX hl ?_ | refine zW hl ?_)
   exact hK
 ·have hq : (zaq l != 0) = true := by simpa using hc
  rw [zeN,if_neg hc,List.append_nil] at hK
  (repeat' first | refine zcY hq ?_ | with_reducible first | exact ⟨⟩ | refine zg ?_ | fail)
  (first | refine zX hl ?_ | refine zW hl ?_)
  exact hK
end Go.Proofs.YtncpaekiidpchaaGreat

/- Contracts: requests sealed, and whether they are valid; a batch's number. -/
set_option maxRecDepth 100000
namespace Go.Proofs.YtncpaekiidpchaaGreat
open Go.AW
theorem zcq.put {σ : List zh} {id m t : Nat} {l : List (List UInt8)} (h : zcq σ id m t l) (l' : List (List UInt8)) : zcq (putTab σ id m t l') id m t l' := by
 obtain ⟨n1,n2,n3⟩ := h.ne
 have h1 := zH h.box; have h2 := zH h.map; have h3 := zH h.tok
 unfold putTab
 refine ⟨?_, ?_, ?_⟩
 ·rw [List.getElem?_set_ne (Ne.symm n1),List.getElem?_set_self (by simpa using h1)]
 ·rw [List.getElem?_set_self (by simpa using h2)]
 ·rw [List.getElem?_set_ne n3,List.getElem?_set_ne n2,List.getElem?_set_self h3]
theorem zev.put {σ : List zh} {id m t : Nat} {g : List zS} (h : zev σ id m t g) (g' : List zS) : zev (putLed σ id m t g') id m t g' := by
 obtain ⟨n1,n2,n3⟩ := h.ne
 have h1 := zH h.box; have h2 := zH h.map; have h3 := zH h.tok
 unfold putLed
 refine ⟨?_, ?_, ?_⟩
 ·rw [List.getElem?_set_self (by simpa using h1)]
 ·rw [List.getElem?_set_ne n1,List.getElem?_set_ne (Ne.symm n3),List.getElem?_set_self h2]
 ·rw [List.getElem?_set_ne n2,List.getElem?_set_self (by simpa using h3)]
theorem apart2 {σ : List zh} {id m t id2 m2 t2 : Nat} {l : List (List UInt8)} {g : List zS} (hT : zcq σ id m t l) (hG : zev σ id2 m2 t2 g) (h1 : id ≠ id2) (h2 : m ≠ m2) :
  (id ≠ m2 ∧ id ≠ t2) ∧ (m ≠ id2 ∧ m ≠ t2) ∧ (t ≠ id2 ∧ t ≠ m2 ∧ t ≠ t2) := by
 refine ⟨⟨?_, ?_⟩,⟨?_, ?_⟩,⟨?_, ?_, ?_⟩⟩ <;> intro e <;> subst e
 ·have := hT.box; rw [hG.map] at this; cases this
 ·have := hT.box; rw [hG.tok] at this; cases this
 ·have := hT.map; rw [hG.box] at this; cases this
 ·have := hT.map; rw [hG.tok] at this; cases this
 ·have := hT.tok; rw [hG.box] at this; cases this
 ·have := hT.tok; rw [hG.map] at this; cases this
 ·have := hT.tok; rw [hG.tok] at this; cases this
theorem zev.putTab {σ : List zh} {id m t id2 m2 t2 : Nat} {l : List (List UInt8)} {g : List zS} (hT : zcq σ id m t l) (hG : zev σ id2 m2 t2 g) (h1 : id ≠ id2) (h2 : m ≠ m2) (l' : List (List UInt8)) :
  zev (putTab σ id m t l') id2 m2 t2 g := by
 obtain ⟨⟨a1,a2⟩,⟨b1,b2⟩,⟨c1,c2,c3⟩⟩ := apart2 hT hG h1 h2
 unfold Go.Proofs.YtncpaekiidpchaaGreat.putTab
 refine ⟨?_, ?_, ?_⟩
 ·rw [List.getElem?_set_ne b1,List.getElem?_set_ne h1,List.getElem?_set_ne c1]; exact hG.box
 ·rw [List.getElem?_set_ne h2,List.getElem?_set_ne a1,List.getElem?_set_ne c2]; exact hG.map
 ·rw [List.getElem?_set_ne b2,List.getElem?_set_ne a2,List.getElem?_set_ne c3]; exact hG.tok
theorem zcq.putLed {σ : List zh} {id m t id2 m2 t2 : Nat} {l : List (List UInt8)} {g : List zS} (hT : zcq σ id m t l) (hG : zev σ id2 m2 t2 g) (h1 : id ≠ id2) (h2 : m ≠ m2) (g' : List zS) :
  zcq (putLed σ id2 m2 t2 g') id m t l := by
 obtain ⟨⟨a1,a2⟩,⟨b1,b2⟩,⟨c1,c2,c3⟩⟩ := apart2 hT hG h1 h2
 unfold Go.Proofs.YtncpaekiidpchaaGreat.putLed
 refine ⟨?_, ?_, ?_⟩
 ·rw [List.getElem?_set_ne (Ne.symm h1),List.getElem?_set_ne (Ne.symm a2),List.getElem?_set_ne (Ne.symm a1)]; exact hT.box
 ·rw [List.getElem?_set_ne (Ne.symm b1),List.getElem?_set_ne (Ne.symm b2),List.getElem?_set_ne (Ne.symm h2)]; exact hT.map
 ·rw [List.getElem?_set_ne (Ne.symm c1),List.getElem?_set_ne (Ne.symm c3),List.getElem?_set_ne (Ne.symm c2)]; exact hT.tok
def noSg : zt := ⟨0, 0,noOp, 0, 0⟩
def zoX (L : List (List UInt8)) (x : zt) : Int := if zav x ≠ 0 then zav x else zeW (keyF x.client) (zew L (zrp x))
def zsX (L : List (List UInt8)) (x : zt) : zt := if zoX L x = 0 then ⟨x.client,x.time,x.op,keyF x.client,zew L (zrp x)⟩ else noSg
def sealL (L : List (List UInt8)) (x : zt) : List (List UInt8) := if zav x ≠ 0 then L else zfo L (zrp x)
def sealG (L : List (List UInt8)) (G : List zS) (x : zt) : List zS := if zav x ≠ 0 then G else zgT G (keyF x.client) (zew L (zrp x))
structure zkB (L : List (List UInt8)) : Prop where
 nd : L.Nodup
 len : L.length ≤ 1048576
 each : ∀ b ∈ L,b.length ≤ 1073741824
theorem zkB.nil : zkB [] := ⟨.nil,by simp,by simp⟩
theorem zkB.sum {L : List (List UInt8)} (h : zkB L) {b : List UInt8} (hb : b.length ≤ 1073741824) : zkB (zfo L b) := by
 unfold zfo
 cases ho : zcX L b with
 | some k => exact h
 | none =>
  simp only
  split
  ·exact h
  ·rename_i hl
   have hn : b ∉ L := fun hm => by
    obtain ⟨i,hi⟩ := List.mem_iff_getElem?.1 hm
    exact zvn ho hm
   refine ⟨?_,by simp; omega,fun x hx => ?_⟩
   ·rw [List.nodup_append]
    refine ⟨h.nd,by simp,fun a ha c hc => ?_⟩
    simp at hc; subst hc
    exact fun e => hn (e ▸ ha)
   ·rcases List.mem_append.1 hx with hx | hx
    ·exact h.each x hx
    ·simp at hx; subst hx; exact hb
end Go.Proofs.YtncpaekiidpchaaGreat
