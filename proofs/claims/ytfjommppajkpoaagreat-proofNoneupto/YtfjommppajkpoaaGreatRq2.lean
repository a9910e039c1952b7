/- Contracts: the bytes of requests, signatures and batches. -/
import Derived.Test.YtfjommppajkpoaaGreatOp1
import Derived.Test.YtfjommppajkpoaaGreatOpC
import Derived.Test.YtfjommppajkpoaaGreatSpUtf
import Derived.Test.YtfjommppajkpoaaGreatId4
set_option linter.all false
set_option maxRecDepth 100000
namespace Go.Proofs.YtfjommppajkpoaaGreat
open Go.AW
def keyF (c : Int) : Int := if c < 0 ∨ c ≥ 8 then -1 else 13 + c
theorem sizes {x : zr} (h : zmd x.op ≤ 20971520) : okO x.op := by
 have h0 := h
 unfold zmd at h
 refine ⟨by omega,by omega, ?_,fun r hr => ?_⟩
 ·have := zjf x.op.recs; omega
 ·have := rec_le hr; omega
theorem ztL {σ : List zg} {x : zr} (hx : zmd x.op ≤ 20971520) {K : KT} (hK : K (.tup [.d (.slice (bcs (zfK x))), .d (.int .i64 (zaj x))]) σ) : zq Tryz.prog zjo [reqA x] σ K := by
 refine zec e_r08_Bytes fun hl => ?_
 have hsz := sizes hx
 simp only [zsk,iN,bT,bF,eN,reqA]
 refine zhJ ?_
 refine ztK (x := x) hsz ?_
 by_cases hc : zaj x = 0
 ·obtain ⟨c0,c8,t1,t2,ho⟩ := req_ok hc
  have hb : (zaj x != 0) = false := by simpa using hc
  have n1 := zt (n := x.client.toNat) (by omega)
  have n2 := zt (n := x.time.toNat) (by omega)
  have w1 : IntKind.u64.wrap x.client = ((x.client.toNat : Nat) : Int) := by
   rw [show x.client = ((x.client.toNat : Nat) : Int) by omega,zci (by omega)]; rfl
  have w2 : IntKind.u64.wrap x.time = ((x.time.toNat : Nat) : Int) := by
   rw [show x.time = ((x.time.toNat : Nat) : Int) by omega,zci (by omega)]; rfl
  rw [hc,zfK,if_pos hc] at hK
  refine zcJ (zbi hb (zbi w1 w2)) ?_
  refine zcx (b := []) (by omega) (by simp) ?_
  refine zcJ (zbi w1 w2) ?_
  refine zcx (by omega) (by first | omega | (simp; omega)) ?_
  refine zcJ (zbi w1 w2) ?_
  refine c_rPut (o := x.op) (by first | omega | (simp; omega)) (by omega) ?_
  refine zhJ ?_
  refine zK hl ?_
  rw [if_pos ho]
  exact hK
 ·have hb : (zaj x != 0) = true := by simpa using hc
  rw [zfK,if_neg hc] at hK
  refine zcJ hb ?_
  refine zK hl ?_
  exact hK
theorem c_rPutSign {σ : List zg} {b : List UInt8} {k d : Int} (hb : b.length ≤ 1073741700) {K : KT} (hK : K (.d (.slice (bcs (b ++ zlv k d)))) σ) :
  zq Tryz.prog zjm [.d (.slice (bcs b)), .agg [.d (.int .i64 k), .d (.int .i64 d)]] σ K := by
 refine zga zuT fun hl => ?_
 simp only [zoe,iN,bT,bF,eN]
 refine zhJ ?_
 refine zij ?_
 by_cases hc : zab k d = 0
 ·obtain ⟨k0,k1,d0,d1⟩ := sign_ok hc
  have hq : (zab k d != 0) = false := by simpa using hc
  have n1 := zt (n := k.toNat) (by omega)
  have w1 : IntKind.u64.wrap k = ((k.toNat : Nat) : Int) := by
   rw [show k = ((k.toNat : Nat) : Int) by omega,zci (by omega)]; rfl
  have w2 : IntKind.u64.wrap d = ((d.toNat : Nat) : Int) := by
   rw [show d = ((d.toNat : Nat) : Int) by omega,zci (by omega)]; rfl
  rw [zlv,if_pos hc] at hK
  refine zcJ (zbi hq (zbi w1 w2)) ?_
  refine zcx (by omega) (by omega) ?_
  refine zcJ (zbi w1 w2) ?_
  refine zcx (by omega) (by first | omega | (simp; omega)) ?_
  refine zhJ ?_
  refine zK hl ?_
  exact hK
 ·have hq : (zab k d != 0) = true := by simpa using hc
  rw [zlv,if_neg hc,List.append_nil] at hK
  refine zcJ hq ?_
  refine zK hl ?_
  exact hK
theorem c_rPutBatch {σ : List zg} {b : List UInt8} {l : List zr} (hb : b.length ≤ 268435456) (hs : ∀ x ∈ l,zmd x.op ≤ 20971520) (hl0 : l.length ≤ 1073741824) {K : KT} (hK : K (.d (.slice (bcs (b ++ zew l)))) σ) :
  zq Tryz.prog zid [.d (.slice (bcs b)), .d (.slice (zjL l))] σ K := by
 refine zga zsK fun hl => ?_
 have hok : okB l := ⟨hl0,fun x hx => sizes (hs x hx)⟩
 simp only [zml,iN,bT,bF,eN]
 refine zhJ ?_
 refine znR hok ?_
 by_cases hc : zad l = 0
 ·have hq : (zad l != 0) = false := by simpa using hc
  obtain ⟨h4,hm,_⟩ := zvv hc
  have n1 := zt (n := l.length) (by omega)
  have w1 : IntKind.u64.wrap (l.length : Int) = (l.length : Int) := zci (by omega)
  rw [zew,if_pos hc] at hK
  refine zcJ (zbi hq w1) ?_
  refine zcx (by omega) (by omega) ?_
  refine zhJ ?_
  refine zaO l.length (fun k vs s => (∃ T,s = σ ++ T) ∧ vs = [.d (.slice (bcs (b ++ (zcn l.length ++ zik (l.take k))))), .d (.int .i64 k)])
   (.data 0 _ _ rfl rfl (.refl _ _)) ⟨⟨_,rfl⟩,by simp [zik]⟩ ?_
  rintro k vs s hk ⟨⟨T,rfl⟩,rfl⟩
  by_cases hlt : k < l.length
  ·have hd : decide ((k : Int) < (l.length : Int)) = true := by simp; omega
   have hx : l[k]? = some l[k] := by simp [hlt]
   have hgx := zU (f := zeI) hx
   have hxs := hs _ (List.getElem_mem hlt)
   have hxm := hm _ (List.getElem_mem hlt)
   obtain ⟨x,hxe⟩ : ∃ x,l[k] = x := ⟨_,rfl⟩
   rw [hxe] at hx hgx hxs hxm
   have hbl := zrU hs hc k
   have hrl := reqBytes_len hxs
   have hpl := zeK (x := zfK x) (by omega)
   obtain ⟨S,hS⟩ : ∃ S, σ ++ T = S := ⟨_,rfl⟩
   rw [hS]
   refine gq25 (zbi hd hgx) ?_
   refine ztL (x := x) hxs ?_
   refine gq25 (zbi hd hgx) ?_
   refine zfA (by omega) (by simp; omega) ?_
   refine gq25 (zbi hd hgx) ?_
   refine c_rPutSign (by simp only [znn,List.length_append] at hpl ⊢; omega) ?_
   refine zcJ (wk1 k (by omega)) ?_
   refine zap.next hlt ⟨⟨_,by rw [← hS,List.append_assoc]⟩, ?_⟩
   rw [batchBs_snoc hx]
   simp [oneB,znn,zfK,zlv,hxm.1,hxm.2]
  ·have hd : decide ((k : Int) < (l.length : Int)) = false := by simp; omega
   rw [List.take_of_length_le (by omega)]
   refine zcJ hd ?_
   refine zK hl ?_
   exact hK
 ·have hq : (zad l != 0) = true := by simpa using hc
  rw [zew,if_neg hc,List.append_nil] at hK
  refine zcJ hq ?_
  refine zK hl ?_
  exact hK
theorem zcd.put {σ : List zg} {id m t : Nat} {l : List (List UInt8)} (h : zcd σ id m t l) (l' : List (List UInt8)) : zcd (putTab σ id m t l') id m t l' := by
 obtain ⟨n1,n2,n3⟩ := h.ne
 have h1 := zA h.box; have h2 := zA h.map; have h3 := zA h.tok
 unfold putTab
 refine ⟨?_, ?_, ?_⟩
 ·rw [List.getElem?_set_ne (Ne.symm n1),List.getElem?_set_self (by simpa using h1)]
 ·rw [List.getElem?_set_self (by simpa using h2)]
 ·rw [List.getElem?_set_ne n3,List.getElem?_set_ne n2,List.getElem?_set_self h3]
theorem zea.put {σ : List zg} {id m t : Nat} {g : List zI} (h : zea σ id m t g) (g' : List zI) : zea (putLed σ id m t g') id m t g' := by
 obtain ⟨n1,n2,n3⟩ := h.ne
 have h1 := zA h.box; have h2 := zA h.map; have h3 := zA h.tok
 unfold putLed
 refine ⟨?_, ?_, ?_⟩
 ·rw [List.getElem?_set_self (by simpa using h1)]
 ·rw [List.getElem?_set_ne n1,List.getElem?_set_ne (Ne.symm n3),List.getElem?_set_self h2]
 ·rw [List.getElem?_set_ne n2,List.getElem?_set_self (by simpa using h3)]
theorem apart2 {σ : List zg} {id m t id2 m2 t2 : Nat} {l : List (List UInt8)} {g : List zI} (hT : zcd σ id m t l) (hG : zea σ id2 m2 t2 g) (h1 : id ≠ id2) (h2 : m ≠ m2) :
  (id ≠ m2 ∧ id ≠ t2) ∧ (m ≠ id2 ∧ m ≠ t2) ∧ (t ≠ id2 ∧ t ≠ m2 ∧ t ≠ t2) := by
 refine ⟨⟨?_, ?_⟩,⟨?_, ?_⟩,⟨?_, ?_, ?_⟩⟩ <;> intro e <;> subst e
 ·have := hT.box; rw [hG.map] at this; cases this
 ·have := hT.box; rw [hG.tok] at this; cases this
 ·have := hT.map; rw [hG.box] at this; cases this
 ·have := hT.map; rw [hG.tok] at this; cases this
 ·have := hT.tok; rw [hG.box] at this; cases this
 ·have := hT.tok; rw [hG.map] at this; cases this
 ·have := hT.tok; rw [hG.tok] at this; cases this
theorem zea.putTab {σ : List zg} {id m t id2 m2 t2 : Nat} {l : List (List UInt8)} {g : List zI} (hT : zcd σ id m t l) (hG : zea σ id2 m2 t2 g) (h1 : id ≠ id2) (h2 : m ≠ m2) (l' : List (List UInt8)) :
  zea (putTab σ id m t l') id2 m2 t2 g := by
 obtain ⟨⟨a1,a2⟩,⟨b1,b2⟩,⟨c1,c2,c3⟩⟩ := apart2 hT hG h1 h2
 unfold Go.Proofs.YtfjommppajkpoaaGreat.putTab
 refine ⟨?_, ?_, ?_⟩
 ·rw [List.getElem?_set_ne b1,List.getElem?_set_ne h1,List.getElem?_set_ne c1]; exact hG.box
 ·rw [List.getElem?_set_ne h2,List.getElem?_set_ne a1,List.getElem?_set_ne c2]; exact hG.map
 ·rw [List.getElem?_set_ne b2,List.getElem?_set_ne a2,List.getElem?_set_ne c3]; exact hG.tok
theorem zcd.putLed {σ : List zg} {id m t id2 m2 t2 : Nat} {l : List (List UInt8)} {g : List zI} (hT : zcd σ id m t l) (hG : zea σ id2 m2 t2 g) (h1 : id ≠ id2) (h2 : m ≠ m2) (g' : List zI) :
  zcd (putLed σ id2 m2 t2 g') id m t l := by
 obtain ⟨⟨a1,a2⟩,⟨b1,b2⟩,⟨c1,c2,c3⟩⟩ := apart2 hT hG h1 h2
 unfold Go.Proofs.YtfjommppajkpoaaGreat.putLed
 refine ⟨?_, ?_, ?_⟩
 ·rw [List.getElem?_set_ne (Ne.symm h1),List.getElem?_set_ne (Ne.symm a2),List.getElem?_set_ne (Ne.symm a1)]; exact hT.box
 ·rw [List.getElem?_set_ne (Ne.symm b1),List.getElem?_set_ne (Ne.symm b2),List.getElem?_set_ne (Ne.symm h2)]; exact hT.map
 ·rw [List.getElem?_set_ne (Ne.symm c1),List.getElem?_set_ne (Ne.symm c3),List.getElem?_set_ne (Ne.symm c2)]; exact hT.tok
def noSg : zr := ⟨0, 0,noOp, 0, 0⟩
def zoz (L : List (List UInt8)) (x : zr) : Int := if zaj x ≠ 0 then zaj x else zeJ (keyF x.client) (zee L (zqN x))
def zsA (L : List (List UInt8)) (x : zr) : zr := if zoz L x = 0 then ⟨x.client,x.time,x.op,keyF x.client,zee L (zqN x)⟩ else noSg
def sealL (L : List (List UInt8)) (x : zr) : List (List UInt8) := if zaj x ≠ 0 then L else zfe L (zqN x)
def sealG (L : List (List UInt8)) (G : List zI) (x : zr) : List zI := if zaj x ≠ 0 then G else zgI G (keyF x.client) (zee L (zqN x))
structure zjN (L : List (List UInt8)) : Prop where
 nd : L.Nodup
 len : L.length ≤ 1048576
 each : ∀ b ∈ L,b.length ≤ 1073741824
theorem zjN.nil : zjN [] := ⟨.nil,by simp,by simp⟩
theorem zjN.sum {L : List (List UInt8)} (h : zjN L) {b : List UInt8} (hb : b.length ≤ 1073741824) : zjN (zfe L b) := by
 unfold zfe
 cases ho : zcN L b with
 | some k => exact h
 | none =>
  simp only
  split
  ·exact h
  ·rename_i hl
   have hn : b ∉ L := fun hm => by
    obtain ⟨i,hi⟩ := List.mem_iff_getElem?.1 hm
    exact zuE ho hm
   refine ⟨?_,by simp; omega,fun x hx => ?_⟩
   ·rw [List.nodup_append]
    refine ⟨h.nd,by simp,fun a ha c hc => ?_⟩
    simp at hc; subst hc
    exact fun e => hn (e ▸ ha)
   ·rcases List.mem_append.1 hx with hx | hx
    ·exact h.each x hx
    ·simp at hx; subst hx; exact hb
end Go.Proofs.YtfjommppajkpoaaGreat
