/- A ledger's clone, whatever was signed. -/
import Derived.Test.YtfjommppajkpoaaGreatId3
import Derived.Test.YtfjommppajkpoaaGreatMk2
import Derived.Test.YtfjommppajkpoaaGreatCl1
import Derived.Test.YtfjommppajkpoaaGreatId4
import Derived.Test.YtfjommppajkpoaaGreatCodec1
set_option linter.all false
set_option maxRecDepth 100000
namespace Go.Proofs.YtfjommppajkpoaaGreat
open Go.AW
theorem zqA {σ : List zg} {id m t : Nat} {g : List zI} (hG : zea σ id m t g) (hg : g.length ≤ 1073741824) {K : KT}
  (hK : ∀ g' : List zI,K (.box (σ.length + 1) 0) (σ ++ ledO σ.length g')) : zq Tryz.prog zbo [.box id 0] σ K := by
 refine zct zdV.is rfl (fun s => List.range' σ.length 3) fun hl _ => zdV.goes ?_
 have hbx : ∀ τ,(σ ++ τ)[id]? = _ := fun τ => zf hG.box
 have hlen : (zny g).length = g.length := List.length_map ..
 simp only [zdX,iN,bT,bF,eN]
 refine gq1 ?_
 refine zvq hG ?_
 refine gq2 hbx ?_
 refine zbn ?_
 refine gq2 (zc hbx hlen) ?_
 refine zw g.length (fun k vs s => vs = [.d (.int .i64 k)] ∧ ∃ g' τ,g'.length ≤ k ∧ s = σ ++ (ledO σ.length g' ++ τ)) ⟨rfl, [], [],by simp,by simp [zny,zsw]⟩ ?_
 rintro k vs s hk ⟨rfl,g', τ,hg',rfl⟩
 by_cases hlt : k < g.length
 ·have hd : decide ((k : Int) < (g.length : Int)) = true := by simp; omega
  have hx : g[k]? = some g[k] := by simp [hlt]
  obtain ⟨x,hxe⟩ : ∃ x,g[k] = x := ⟨_,rfl⟩
  rw [hxe] at hx
  have hgx : (zny g)[k]? = some [D.int .i64 x.key,D.int .i64 x.dig] := by rw [zny]; exact zU hx
  refine gq2 (zc hd (zc hgx hlen)) ?_
  have hL : ∀ τ',zea (σ ++ (ledO σ.length g' ++ τ')) (σ.length + 1) σ.length (σ.length + 2) g' := fun τ' => ledAt_new σ g' τ'
  refine c_gSign (hL (τ ++ [.box [.d (.int .i64 x.key), .d (.int .i64 x.dig)]])) (by omega) ?_
  have hP := putLed_new σ g' (zgI g' x.key x.dig) (τ ++ [.box [.d (.int .i64 x.key), .d (.int .i64 x.dig)]])
  rw [hP]
  have hw : IntKind.i64.wrap ((k : Int) + 1) = ((k + 1 : Nat) : Int) := by rw [zJ (by omega) (by omega)]; rfl
  refine gq2 hw ?_
  refine zap.next hlt ⟨rfl,zgI g' x.key x.dig, τ ++ [.box [.d (.int .i64 x.key), .d (.int .i64 x.dig)]], ?_,by simp [ledO]⟩
  unfold zgI zsz
  split
  ·split
   ·omega
   ·simp; omega
  ·omega
 ·have hd : decide ((k : Int) < (g.length : Int)) = false := by simp; omega
  refine gq2 (zc hlen hd) ?_
  exact zpz (σ' := σ) (os := ledO σ.length g') (τ := τ) rfl rfl hl (low_ledO _ _) (.box _ _ (by simp)) (hK g')
end Go.Proofs.YtfjommppajkpoaaGreat

/- Headers, and records at their places: their bytes; chains. No program in sight. -/
namespace Go.AW
structure zdW where
 seq : Int
 prev : Int
 batch : Int
 root : Int
 state : Int
deriving DecidableEq
def zqb (h : zdW) : List Int := [h.seq,h.prev,h.batch,h.root,h.state]
abbrev zuJ (h : zdW) : List D := [.int .i64 h.seq, .int .i64 h.prev, .int .i64 h.batch, .int .i64 h.root, .int .i64 h.state]
abbrev ztt (h : zdW) : AV := .agg [.d (.int .i64 h.seq), .d (.int .i64 h.prev), .d (.int .i64 h.batch), .d (.int .i64 h.root), .d (.int .i64 h.state)]
abbrev zdf (l : List zdW) : List (List D) := l.map zuJ
def zkd (h : zdW) : Bool := (zqb h).all zdd
def zaA (h : zdW) : Int := if zkd h = true then 0 else 90
def zsH (h : zdW) : List UInt8 := 3 :: zgK (zqb h)
def hdrBF (h : zdW) : List UInt8 := if zaA h = 0 then zsH h else []
theorem zdg {h : zdW} : zaA h = 0 ↔ zkd h = true := by
 unfold zaA; split <;> simp_all
theorem ziA {h : zdW} (hk : zkd h = true) : ∀ x ∈ zqb h, 0 ≤ x ∧ x ≤ 9007199254740992 := fun x hx => znr.1 (List.all_eq_true.1 hk x hx)
theorem hdrB_len {h : zdW} (hk : zkd h = true) : (zsH h).length ≤ 51 := by
 have := zkA (l := zqb h) fun x hx => by have := ziA hk x hx; omega
 simp only [zsH,zqb,List.length_cons,List.length_nil] at this ⊢
 omega
def linkF (L : List (List UInt8)) : Option zdW → zdW → Bool
 | none,_ => true
 | some q,h => match zcN L (zsH q) with
  | some i => (h.prev == ((i + 1 : Nat) : Int)) && (h.seq == q.seq + 1)
  | none => false
def zpE (L : List (List UInt8)) : Option zdW → List zdW → Bool
 | _, [] => true
 | p,h :: r => zkd h && (linkF L p h && zpE L (some h) r)
def zkW (L : List (List UInt8)) (l : List zdW) : Bool := zpE L none l
structure zbe where
 topic : List UInt8
 offset : Int
 rec_ : List UInt8
abbrev zoB (p : zbe) : List D := [.str p.topic, .int .i64 p.offset, .slice (bcs p.rec_)]
abbrev zcA (l : List zbe) : List (List D) := l.map zoB
def zaz (p : zbe) : List UInt8 := znn p.topic ++ (zcn p.offset.toNat ++ znn p.rec_)
theorem ztF {L : List (List UInt8)} {p : Option zdW} {l : List zdW} {k : Nat} {h : zdW} (hx : l[k]? = some h) : zpE L p (l.drop k) = (zkd h && (linkF L p h && zpE L (some h) (l.drop (k + 1)))) := by
 have hk : k < l.length := (List.getElem?_eq_some_iff.1 hx).1
 rw [List.drop_eq_getElem_cons hk,(List.getElem?_eq_some_iff.1 hx).2]
 rfl
end Go.AW

/- Contracts: headers, and records at their places, on both sides. -/
set_option maxRecDepth 100000
namespace Go.Proofs.YtfjommppajkpoaaGreat
open Go.AW
theorem zrP {σ : List zg} {x : Int} {K : KT} (hK : K (.d (.bool (zdd x))) σ) : zq Tryz.prog zhi [.d (.int .i64 x)] σ K := by
 refine zec e_r09_num fun hl => ?_
 have fin : ∀ z,zdd x = z → K (.d (.bool z)) σ := fun z h => h ▸ hK
 clear hK
 simp only [S_r09_num,iN,bT,bF,eN]
 cases h1 : decide (x ≥ 0)
 ·refine gq2 h1 ?_
  refine zK hl ?_
  exact fin _ (by simp at h1; simp [zdd]; omega)
 ·refine gq2 h1 ?_
  refine zK hl ?_
  exact fin _ (by simp at h1; simp [zdd]; omega)
theorem zrQ {σ : List zg} {h : zdW} {K : KT} (hK : K (.d (.int .i64 (zaA h))) σ) : zq Tryz.prog zhj [ztt h] σ K := by
 refine zec e_r09_Check fun hl => ?_
 have fin : ∀ z,zkd h = z → K (.d (.int .i64 (if z = true then 0 else 90))) σ := fun z e => by subst e; exact hK
 clear hK
 simp only [zsg,iN,bT,bF,eN,ztt]
 refine gq1 ?_
 refine zrP ?_
 cases h1 : zdd h.seq
 ·refine gq1 ?_
  refine zK hl ?_
  exact fin false (by simp [zkd,zqb,h1])
 refine gq1 ?_
 refine zrP ?_
 cases h2 : zdd h.prev
 ·refine gq1 ?_
  refine zK hl ?_
  exact fin false (by simp [zkd,zqb,h2])
 refine gq1 ?_
 refine zrP ?_
 cases h3 : zdd h.batch
 ·refine gq1 ?_
  refine zK hl ?_
  exact fin false (by simp [zkd,zqb,h3])
 refine gq1 ?_
 refine zrP ?_
 cases h4 : zdd h.root
 ·refine gq1 ?_
  refine zK hl ?_
  exact fin false (by simp [zkd,zqb,h4])
 refine gq1 ?_
 refine zrP ?_
 cases h5 : zdd h.state
 ·refine gq1 ?_
  refine zK hl ?_
  exact fin false (by simp [zkd,zqb,h5])
 refine gq1 ?_
 refine zK hl ?_
 exact fin true (by simp [zkd,zqb,h1,h2,h3,h4,h5])
theorem c_blCheck {σ : List zg} {h : zdW} {K : KT} (hK : K (.d (.int .i64 (zaA h))) σ) : zq Tryz.prog zgO [ztt h] σ K := by
 refine zec zva fun hl => ?_
 have fin : ∀ z,zkd h = z → K (.d (.int .i64 (if z = true then 0 else 90))) σ := fun z e => by subst e; exact hK
 clear hK
 simp only [zom,iN,bT,bF,eN,ztt]
 refine gq1 ?_
 have hg : ∀ (k : Nat) x,(zqb h)[k]? = some x → [[D.int .i64 h.seq], [D.int .i64 h.prev], [D.int .i64 h.batch], [D.int .i64 h.root], [D.int .i64 h.state]][k]? = some [D.int .i64 x] := fun k x hx => by
  have := zU (f := fun t => [D.int .i64 t]) hx
  simpa [zqb] using this
 have hl5 : (zqb h).length = 5 := rfl
 unfold zkd at fin
 obtain ⟨l,hlq⟩ : ∃ l,zqb h = l := ⟨_,rfl⟩
 rw [hlq] at fin hl5 hg
 refine zw 5 (fun k vs s => vs = [.d (.int .i64 k)] ∧ (∃ T,s = σ ++ T) ∧ (l.take k).all zdd = true) ⟨rfl,⟨_,rfl⟩,by simp⟩ ?_
 rintro k vs s hk ⟨rfl,⟨T,rfl⟩,hok⟩
 by_cases hlt : k < 5
 ·have hd : decide ((k : Int) < ((5 : Nat) : Int)) = true := by simp; omega
  have hx : l[k]? = some (l[k]'(by omega)) := List.getElem?_eq_getElem _
  have hgx := hg k _ hx
  obtain ⟨x,hxe⟩ : ∃ x,(l[k]'(by omega)) = x := ⟨_,rfl⟩
  rw [hxe] at hx hgx
  have bad : zdd x = false → l.all zdd = false := fun h => by
   rw [Bool.eq_false_iff]
   intro hall
   have := List.all_eq_true.1 hall x (List.mem_of_getElem? hx)
   rw [h] at this; cases this
  cases h1 : decide (x < 0)
  ·cases h2 : decide (x > 9007199254740992)
   ·refine gq2 (zc hd (zc hgx (zc h1 (zc h2 (wki k (by omega)))))) ?_
    refine zap.next hlt ⟨rfl,⟨_,rfl⟩, ?_⟩
    rw [List.take_add_one,hx]
    simp only [List.all_append,hok,Option.toList_some,List.all_cons,List.all_nil,Bool.true_and,Bool.and_true]
    simp at h1 h2
    simp [zdd]; omega
   ·refine gq2 (zc hd (zc hgx (zc h1 h2))) ?_
    refine zK hl ?_
    exact fin false (bad (by simp at h2; simp [zdd]; omega))
  ·refine gq2 (zc hd (zc hgx h1)) ?_
   refine zK hl ?_
   exact fin false (bad (by simp at h1; simp [zdd]; omega))
 ·have hd : decide ((k : Int) < ((5 : Nat) : Int)) = false := by simp; omega
  rw [List.take_of_length_le (by omega)] at hok
  refine gq2 hd ?_
  refine zK hl ?_
  exact fin true hok
theorem c_blBytes {σ : List zg} {h : zdW} {K : KT} (hK : K (.tup [.d (.slice (bcs (hdrBF h))), .d (.int .i64 (zaA h))]) σ) : zq Tryz.prog zgP [ztt h] σ K := by
 refine zec zvc fun hl => ?_
 simp only [zoo,iN,bT,bF,eN,ztt]
 refine gq1 ?_
 refine c_blCheck (h := h) ?_
 cases hk : (zaA h == 0)
 ·have hk' : (zaA h != 0) = true := by simpa using hk
  have hk0 : ¬ zaA h = 0 := by simpa using hk
  refine gq2 hk' ?_
  refine zK hl ?_
  rw [hdrBF,if_neg hk0] at hK
  exact hK
 have hk0 : zaA h = 0 := by simpa using hk
 have hr := ziA (zdg.1 hk0)
 rw [hdrBF,if_pos hk0,hk0] at hK
 rw [hk0]
 refine gq2 (show ((0 : Int) != 0) = false from rfl) ?_
 have hg : ∀ (k : Nat) x,(zqb h)[k]? = some x → [[D.int .i64 h.seq], [D.int .i64 h.prev], [D.int .i64 h.batch], [D.int .i64 h.root], [D.int .i64 h.state]][k]? = some [D.int .i64 x] := fun k x hx => by
  have := zU (f := fun t => [D.int .i64 t]) hx
  simpa [zqb] using this
 have hl5 : (zqb h).length = 5 := rfl
 unfold zsH at hK
 obtain ⟨l,hlq⟩ : ∃ l,zqb h = l := ⟨_,rfl⟩
 rw [hlq] at hK hl5 hg hr
 refine zw 5 (fun k vs s => (∃ x,vs = [x, .d (.int .i64 k)] ∧ (x = .exact (bcs (3 :: zgK (l.take k))) ∨ ∃ t,x = .own t (bcs (3 :: zgK (l.take k))))) ∧ ∃ T,s = σ ++ T) ⟨⟨_,rfl, .inl rfl⟩,_,rfl⟩ ?_
 rintro k vs s hk ⟨⟨y,rfl,hy⟩,T,rfl⟩
 by_cases hlt : k < 5
 ·have hd : decide ((k : Int) < ((5 : Nat) : Int)) = true := by simp; omega
  have hx : l[k]? = some (l[k]'(by omega)) := List.getElem?_eq_getElem _
  have hgx := hg k _ hx
  obtain ⟨x,hxe⟩ : ∃ x,(l[k]'(by omega)) = x := ⟨_,rfl⟩
  rw [hxe] at hx hgx
  have hxr := hr x (List.mem_of_getElem? hx)
  have hw : IntKind.u64.wrap x = ((x.toNat : Nat) : Int) := by
   rw [show x = ((x.toNat : Nat) : Int) by omega,zci (by omega)]; rfl
  have hln := zkA (l := l.take k) (fun y hy => by have := hr y (List.mem_of_mem_take hy); omega)
  have hlk : (l.take k).length = k := by rw [List.length_take]; omega
  have hbl : (3 :: zgK (l.take k)).length ≤ 1073741824 := by rw [List.length_cons]; omega
  rcases hy with rfl | ⟨t,rfl⟩
  all_goals
   refine gq2 (zc hd (zc hgx hw)) ?_
   refine zjF (b := 3 :: zgK (l.take k)) (by omega) hbl ?_
   refine gq2 (wki k (by omega)) ?_
   exact zap.next hlt ⟨⟨_,rfl, .inr ⟨_,by rw [zlx hx]⟩⟩,_,rfl⟩
 ·have hd : decide ((k : Int) < ((5 : Nat) : Int)) = false := by simp; omega
  rw [List.take_of_length_le (by omega)] at hy
  rcases hy with rfl | ⟨t,rfl⟩
  all_goals
   refine gq2 hd ?_
   refine zK hl ?_
   exact hK
theorem zrR {σ : List zg} {h : zdW} {K : KT} (hK : K (.tup [.d (.slice (bcs (hdrBF h))), .d (.int .i64 (zaA h))]) σ) : zq Tryz.prog zhk [ztt h] σ K := by
 refine zec e_r09_Bytes fun hl => ?_
 simp only [zsi,iN,bT,bF,eN,ztt]
 refine gq1 ?_
 refine zrQ (h := h) ?_
 cases hk : (zaA h == 0)
 ·have hk' : (zaA h != 0) = true := by simpa using hk
  have hk0 : ¬ zaA h = 0 := by simpa using hk
  refine gq2 hk' ?_
  refine zK hl ?_
  rw [hdrBF,if_neg hk0] at hK
  exact hK
 have hk0 : zaA h = 0 := by simpa using hk
 have hr := ziA (zdg.1 hk0)
 rw [hdrBF,if_pos hk0,hk0] at hK
 rw [hk0]
 have h0 := hr h.seq (by simp [zqb])
 have hw0 : IntKind.u64.wrap h.seq = ((h.seq.toNat : Nat) : Int) := by
  rw [show h.seq = ((h.seq.toNat : Nat) : Int) by omega,zci (by omega)]; rfl
 refine gq2 (zc (show ((0 : Int) != 0) = false from rfl) hw0) ?_
 refine zcx (b := [3]) (by omega) (by simp) ?_
 refine gq1 ?_
 have hg : ∀ (k : Nat) x, [h.prev,h.batch,h.root,h.state][k]? = some x → [[D.int .i64 h.prev], [D.int .i64 h.batch], [D.int .i64 h.root], [D.int .i64 h.state]][k]? = some [D.int .i64 x] := fun k x hx => by
  have := zU (f := fun t => [D.int .i64 t]) hx
  simpa using this
 have hB : zsH h = [3] ++ zcn h.seq.toNat ++ zgK [h.prev,h.batch,h.root,h.state] := by simp [zsH,zqb,zgK]
 rw [hB] at hK
 have hr4 : ∀ x ∈ [h.prev,h.batch,h.root,h.state], 0 ≤ x ∧ x ≤ 9007199254740992 := fun x hx => hr x (by rw [zqb]; exact List.mem_cons_of_mem _ hx)
 have hl4 : [h.prev,h.batch,h.root,h.state].length = 4 := rfl
 have hb0 : ([3] ++ zcn h.seq.toNat).length ≤ 11 := by
  have := zt (n := h.seq.toNat) (by omega)
  simp; omega
 obtain ⟨l,hlq⟩ : ∃ l, [h.prev,h.batch,h.root,h.state] = l := ⟨_,rfl⟩
 rw [hlq] at hK hl4 hg hr4
 obtain ⟨b,hbe⟩ : ∃ b, [3] ++ zcn h.seq.toNat = b := ⟨_,rfl⟩
 have hbc : zbA 3 :: bcs (zcn h.seq.toNat) = bcs b := by rw [← hbe]; rfl
 rw [hbe] at hK hb0
 rw [hbc]
 refine zw 4 (fun k vs s => (∃ t,vs = [.own t (bcs (b ++ zgK (l.take k))), .d (.int .i64 k)]) ∧ ∃ T,s = σ ++ T) ⟨⟨_,by simp [zgK]; rfl⟩,_,rfl⟩ ?_
 rintro k vs s hk ⟨⟨t,rfl⟩,T,rfl⟩
 by_cases hlt : k < 4
 ·have hd : decide ((k : Int) < ((4 : Nat) : Int)) = true := by simp; omega
  have hx : l[k]? = some (l[k]'(by omega)) := List.getElem?_eq_getElem _
  have hgx := hg k _ hx
  obtain ⟨x,hxe⟩ : ∃ x,(l[k]'(by omega)) = x := ⟨_,rfl⟩
  rw [hxe] at hx hgx
  have hxr := hr4 x (List.mem_of_getElem? hx)
  have hw : IntKind.u64.wrap x = ((x.toNat : Nat) : Int) := by
   rw [show x = ((x.toNat : Nat) : Int) by omega,zci (by omega)]; rfl
  have hln := zkA (l := l.take k) (fun y hy => by have := hr4 y (List.mem_of_mem_take hy); omega)
  have hlk : (l.take k).length = k := by rw [List.length_take]; omega
  have hbl : (b ++ zgK (l.take k)).length ≤ 1073741824 := by rw [List.length_append]; omega
  refine gq2 (zc hd (zc hgx hw)) ?_
  refine zcx (by omega) hbl ?_
  refine gq2 (wki k (by omega)) ?_
  exact zap.next hlt ⟨⟨_,by rw [zlx hx]⟩,_,rfl⟩
 ·have hd : decide ((k : Int) < ((4 : Nat) : Int)) = false := by simp; omega
  rw [List.take_of_length_le (by omega)]
  refine gq2 hd ?_
  refine zK hl ?_
  exact hK
theorem max0 (x : Int) : (if 0 > x then 0 else x) = ((x.toNat : Nat) : Int) ∧ (if x > 0 then x else 0) = ((x.toNat : Nat) : Int) := by
 constructor <;> split <;> omega
theorem zjE {σ : List zg} {b : List UInt8} {n : Nat} (hb : b.length ≤ 1073741000) (hn : n < 9223372036854775808) {K : KT} (hK : K (.d (.slice (bcs (b ++ zcn n)))) σ) : zq Tryz.prog zdD [.d (.slice (bcs b)), .d (.int .i64 n)] σ K := by
 refine zga e_r07_put fun hl => ?_
 have hw : IntKind.u64.wrap (n : Int) = (n : Int) := zci (by omega)
 simp only [S_r07_put,iN,bT,bF,eN]
 refine gq2 hw ?_
 refine zcx (by omega) (by omega) ?_
 refine gq1 ?_
 refine zK hl ?_
 exact hK
structure zje (p : zbe) : Prop where
 off : zrk p.offset
 topic : p.topic.length ≤ 16777216
 rec_ : p.rec_.length ≤ 16777216
theorem gq26 {A P Q : Prop} (a : A) (h : Q) (e : A → Hd Q → P := by intro a h; (repeat' first | simp -dsimp only [↓zgr, ↓zaF, ↓zbL, ↓zgt, ↓zgn, ↓zgl, ↓zgo, ↓zgm, ↓zbR, ↓zbN, ↓zbS, ↓zbO, ↓zgp, ↓zbJ, ↓zbT, ↓zbP, ↓zbU, ↓zbQ, ↓zgj, ↓zgq, ↓zbI, ↓zbX, ↓zgc, ↓zgb, ↓zgi,iN,bT,bF,eN, ↓zdN, ↓unC, ↓zac, ↓zQ, ↓zR, ↓zV, ↓zak, ↓zau, ↓zco, ↓zag, ↓zaJ, ↓zW, ↓zp, ↓zo, ↓zbF, ↓zl, ↓zan, ↓zF, ↓zaM, ↓zaW, ↓ze, ↓zC, ↓zu, ↓zy, ↓zav, ↓zdr, ↓zdU, ↓zat, ↓zaB, ↓zaU, ↓zbk, ↓zbv, ↓zD, ↓zaq, ↓zS, ↓zE, ↓zam,zeb,zbD,zbB,unA,zei,bnd,zeF,zai,zP,zeE,dm,dm1,zB,zal,zfg,zff,zx,Q0,Q1,Q2,Q3,Q4,Q5,zZ,zh,zm,zT,zN,Q6,Q7,Q8,Q9,Q10,Q11,Q12,Q13,Q14,Nat.reduceAdd,Q15,Int.reduceToNat,Q16,Q17,Q18,Q19,Q20,reduceIte,Q21,Q22,zH,rep,zX,zfc,toD,zah,Q23,Q24,Q25,Q26,Q27,Q28,Nat.reduceLeDiff,Q29,Nat.reduceSub,Q30,Q31,Q32,sc,Q33,Q34,Q35,Q36,Q37,Q26,Q38,Q39,zkn,zkk,zkh,zko,zdu,zkl,zki,zkm,zkj,zdt,zdv,zkp,zkq,Bool.not_true,Bool.not_false,List.length_map,List.nil_append,m1,a] | with_reducible refine zkr ?_ | fail); exact h.go) : P := e a ⟨h⟩
theorem ztO {σ : List zg} {p : zbe} (hp : zje p) {K : KT} (hK : K (.d (.slice (bcs (zaz p)))) σ) : zq Tryz.prog zdJ [.agg [.d (.str p.topic), .d (.int .i64 p.offset), .d (.slice (bcs p.rec_))]] σ K := by
 refine zec zpb fun hl => ?_
 have ht := hp.topic; have hr := hp.rec_; have ho := hp.off
 have hlt := zt (n := p.topic.length) (by omega)
 have hon : p.offset.toNat < 9223372036854775808 := by have := ho.2; omega
 have hlo := zt (n := p.offset.toNat) (by omega)
 obtain ⟨m1,m2⟩ := max0 p.offset
 simp only [ziT,iN,bT,bF,eN]
 refine gq1 ?_
 refine zfA (b := []) (x := p.topic) (by omega) (by simp) ?_
 refine gq26 m2 ?_
 refine zjE (b := zcn p.topic.length ++ p.topic) (by simp; omega) hon ?_
 refine gq1 ?_
 refine zfA (by omega) (by simp; omega) ?_
 refine gq1 ?_
 refine zK hl ?_
 simp only [zaz,znn,List.append_assoc] at hK ⊢
 exact hK
theorem ztI {σ : List zg} {p : zbe} (hp : zje p) {K : KT} (hK : K (.d (.slice (bcs (zaz p)))) σ) : zq Tryz.prog zcF [.agg [.d (.str p.topic), .d (.int .i64 p.offset), .d (.slice (bcs p.rec_))]] σ K := by
 refine zec zlP fun hl => ?_
 have ht := hp.topic; have hr := hp.rec_; have ho := hp.off
 have hlt := zt (n := p.topic.length) (by omega)
 have hon : p.offset.toNat < 9223372036854775808 := by have := ho.2; omega
 have hlo := zt (n := p.offset.toNat) (by omega)
 obtain ⟨m1,m2⟩ := max0 p.offset
 have m3 : (if p.offset > 0 then p.offset else 0) = ((p.offset.toNat : Nat) : Int) := m2
 have hw : IntKind.u64.wrap ((p.offset.toNat : Nat) : Int) = ((p.offset.toNat : Nat) : Int) := zci (by omega)
 simp only [zgA,iN,bT,bF,eN]
 refine gq1 ?_
 refine ztQ (b := []) (x := p.topic) (by omega) (by simp) ?_
 refine gq26 (zc m2 hw) ?_
 refine zjF (b := zcn p.topic.length ++ p.topic) (by omega) (by simp; omega) ?_
 refine gq1 ?_
 refine ztQ (by omega) (by simp; omega) ?_
 refine gq1 ?_
 refine zK hl ?_
 simp only [zaz,znn,List.append_assoc] at hK ⊢
 exact hK
end Go.Proofs.YtfjommppajkpoaaGreat
