/- Contracts: what is asked, as a list of errors that grows. -/
import Derived.Test.YtfgbofkdhfjegaaGreatPt2
import Derived.Test.YtfgbofkdhfjegaaGreatOpC
import Derived.Test.YtfgbofkdhfjegaaGreatBt3
import Derived.Test.YtfgbofkdhfjegaaGreatSm2
import Derived.Test.YtfgbofkdhfjegaaGreatAwFrz
set_option linter.all false
set_option maxRecDepth 100000
namespace Go.Proofs.YtfgbofkdhfjegaaGreat
open Go.AW
theorem thn_apps (P l : List Int) : zhT (zcD P) (zcD l) = zcD (P ++ l) := by rw [← zjN (zcD P),zvz,zjN]
section
variable {σ : List zh} {id : Nat} {P : List Int} {K : KT}
theorem c_aIn {n lo hi : Int} (hσ : σ[id]? = some (zgv (zcD P))) (hK : K (.tup []) (σ.set id (zgv (zcD (P ++ [inE n lo hi]))))) : zp Tryz.prog zau [.box id 0, .d (.int .i64 n), .d (.int .i64 lo), .d (.int .i64 hi)] σ K := zti hσ (by rw [zkH]; exact hK)
theorem c_aNum {n : Int} (hσ : σ[id]? = some (zgv (zcD P))) (hK : K (.tup []) (σ.set id (zgv (zcD (P ++ [ziN n]))))) : zp Tryz.prog zad [.box id 0, .d (.int .i64 n)] σ K := zlo hσ (by rw [zkH]; exact hK)
theorem c_aPos {n : Int} (hσ : σ[id]? = some (zgv (zcD P))) (hK : K (.tup []) (σ.set id (zgv (zcD (P ++ [zvL n]))))) : zp Tryz.prog zbJ [.box id 0, .d (.int .i64 n)] σ K := c_askPos hσ (by rw [zkH]; exact hK)
theorem c_aMany {n hi : Int} (hσ : σ[id]? = some (zgv (zcD P))) (hK : K (.tup []) (σ.set id (zgv (zcD (P ++ [inE n 0 hi]))))) : zp Tryz.prog zaL [.box id 0, .d (.int .i64 n), .d (.int .i64 hi)] σ K := zko hσ (by rw [zkH]; exact hK)
theorem c_aName {x : List UInt8} (hσ : σ[id]? = some (zgv (zcD P))) (hx : x.length ≤ 1073741824) (hK : K (.tup []) (σ.set id (zgv (zcD (P ++ [ztP x]))))) : zp Tryz.prog zch [.box id 0, .d (.str x)] σ K := c_askName hσ hx (by rw [zkH]; exact hK)
theorem c_aCert {c : zff} (hσ : σ[id]? = some (zgv (zcD P))) (hl0 : c.signs.length ≤ 1073741824) (hK : K (.tup []) (σ.set id (zgv (zcD (P ++ zhx c))))) : zp Tryz.prog zci [.box id 0,zox c] σ K := c_askCert hσ hl0 (by rw [thn_apps]; exact hK)
end
structure znl (σ : List zh) (id : Nat) (B : zh) (P : List Int) (S : List zh) : Prop where
 a : S[id]? = some (zgv (zcD P))
 b : S[σ.length]? = some B
 pre : ∃ τ,S = σ.set id (zgv (zcD P)) ++ τ
section
variable {σ S : List zh} {id : Nat} {B : zh} {P P' : List Int}
theorem znl.first (hσ : σ[id]? = some (zgv (zcD P))) (B : zh) : znl σ id B P (σ ++ [B]) := ⟨zd hσ,by rw [zy]; rfl, [B],by rw [zbq hσ]⟩
theorem znl.set (h : znl σ id B P S) (hid : id < σ.length) (P' : List Int) : znl σ id B P' (S.set id (zgv (zcD P'))) := by
 obtain ⟨h1,h2, τ,h3⟩ := h
 refine ⟨List.getElem?_set_self (zx h1),(List.getElem?_set_ne (by omega)).trans h2, τ, ?_⟩
 rw [h3,List.set_append_left _ _ (by simpa using hid),List.set_set]
theorem znl.app (h : znl σ id B P S) (τ : List zh) : znl σ id B P (S ++ τ) := by
 obtain ⟨h1,h2, τ',h3⟩ := h
 exact ⟨zd h1,zd h2, τ' ++ τ,by rw [h3,List.append_assoc]⟩
theorem znl.done (h : znl σ id B P S) {K : KT} (hl : zfn σ.length σ) (hK : K (.tup []) (σ.set id (zgv (zcD P)))) : AW.Ends σ.length K (some []) S := by
 obtain ⟨_,_, τ,rfl⟩ := h
 exact zig (by simp [zcC,dmT,zbL]) hl (zgu _ _) hK
theorem znl.as (h : znl σ id B P S) (e : P = P') : znl σ id B P' S := e ▸ h
end
section
variable {σ : List zh} {id : Nat} {P : List Int} {K : KT}
theorem c_aBroker {n : Int} (hσ : σ[id]? = some (zgv (zcD P))) (hK : K (.tup []) (σ.set id (zgv (zcD (P ++ [brkE n]))))) : zp Tryz.prog zaT [.box id 0, .d (.int .i64 n)] σ K := by
 refine zfY zlR fun hl => ?_
 simp only [zgI,iN,bT,bF,eN]
 refine ziv ?_
 refine c_aIn hσ ?_
 exact zer (by simp [zcC,dmT,zbL]) hl (zgu _ _) hK
end
section
variable {σ S : List zh} {id : Nat} {B : zh} {P : List Int} {K : KT} (j : znl σ id B P S) (hid : id < σ.length)
include j hid
theorem j_in {n lo hi : Int} (hK : ∀ S,znl σ id B (P ++ [inE n lo hi]) S → K (.tup []) S) : zp Tryz.prog zau [.box id 0, .d (.int .i64 n), .d (.int .i64 lo), .d (.int .i64 hi)] S K := c_aIn j.a (hK _ (j.set hid _))
theorem j_num {n : Int} (hK : ∀ S,znl σ id B (P ++ [ziN n]) S → K (.tup []) S) : zp Tryz.prog zad [.box id 0, .d (.int .i64 n)] S K := c_aNum j.a (hK _ (j.set hid _))
theorem j_many {n hi : Int} (hK : ∀ S,znl σ id B (P ++ [inE n 0 hi]) S → K (.tup []) S) : zp Tryz.prog zaL [.box id 0, .d (.int .i64 n), .d (.int .i64 hi)] S K := c_aMany j.a (hK _ (j.set hid _))
theorem j_broker {n : Int} (hK : ∀ S,znl σ id B (P ++ [brkE n]) S → K (.tup []) S) : zp Tryz.prog zaT [.box id 0, .d (.int .i64 n)] S K := c_aBroker j.a (hK _ (j.set hid _))
theorem j_name {x : List UInt8} (hx : x.length ≤ 1073741824) (hK : ∀ S,znl σ id B (P ++ [ztP x]) S → K (.tup []) S) : zp Tryz.prog zch [.box id 0, .d (.str x)] S K := c_aName j.a hx (hK _ (j.set hid _))
theorem j_cert {c : zff} (hl0 : c.signs.length ≤ 1073741824) (hK : ∀ S,znl σ id B (P ++ zhx c) S → K (.tup []) S) : zp Tryz.prog zci [.box id 0,zox c] S K := c_aCert j.a hl0 (hK _ (j.set hid _))
end
structure okCh (c : zgw) : Prop where
 signs : c.cert.signs.length ≤ 1073741824
 above : c.above.length ≤ 1073741824
 each : ∀ p ∈ c.above,p.signs.length ≤ 1073741824 ∧ okB p.batch
theorem flat_take {α β : Type} {f : α → List β} {l : List α} {k : Nat} {x : α} (h : l[k]? = some x) : ((l.take (k + 1)).map f).flatten = ((l.take k).map f).flatten ++ f x := by
 rw [zdJ h]; simp
theorem c_mSameProof {σ : List zh} {a b : zcf} (ha : zgc a) {K : KT} (hK : K (.d (.bool (decide (a = b)))) σ) : zp Tryz.prog zfw [zhy a,zhy b] σ K := by
 refine zfY zop fun hl => ?_
 have fin : ∀ z,decide (a = b) = z → K (.d (.bool z)) σ := fun z h => h ▸ hK
 clear hK
 simp only [ziG,iN,bT,bF,eN]
 cases h1 : (a.topic == b.topic)
 ·refine zbA h1 ?_
  refine zT hl ?_
  exact fin _ (decide_eq_false fun h => by subst h; simp at h1)
 cases h2 : (a.offset == b.offset)
 ·refine zbA (zbe h1 h2) ?_
  refine zT hl ?_
  exact fin _ (decide_eq_false fun h => by subst h; simp at h2)
 refine gq34 (zbe h1 h2) ?_
 refine zib ?_
 cases h3 : (a.rec_ == b.rec_)
 ·refine zbA h3 ?_
  refine zT hl ?_
  exact fin _ (decide_eq_false fun h => by subst h; simp at h3)
 refine gq34 h3 ?_
 refine c_eqHdr ha.headers ?_
 cases h4 : decide (a.headers = b.headers)
 ·refine zbA h4 ?_
  refine zT hl ?_
  exact fin _ (decide_eq_false fun h => by subst h; simp at h4)
 cases h5 : (a.index == b.index)
 ·refine zbA (zbe h4 h5) ?_
  refine zT hl ?_
  exact fin _ (decide_eq_false fun h => by subst h; simp at h5)
 cases h6 : (a.count == b.count)
 ·refine zbA (zbe h4 (zbe h5 h6)) ?_
  refine zT hl ?_
  exact fin _ (decide_eq_false fun h => by subst h; simp at h6)
 refine gq34 (zbe h4 (zbe h5 h6)) ?_
 refine c_eqDig ha.path ?_
 cases h7 : decide (a.path = b.path)
 ·refine zbA h7 ?_
  refine zT hl ?_
  exact fin _ (decide_eq_false fun h => by subst h; simp at h7)
 refine gq34 h7 ?_
 refine zoA (a := a.cert) (b := b.cert) ha.signs ?_
 cases h8 : decide (a.cert = b.cert)
 ·refine zbA h8 ?_
  refine zT hl ?_
  exact fin _ (decide_eq_false fun h => by subst h; simp at h8)
 refine zbA h8 ?_
 refine zT hl ?_
 exact fin _ (decide_eq_true (by cases a; cases b; simp_all))
abbrev fltMA (a : zlS) : AV := .agg [.d (.int .i64 a.kind), .d (.int .i64 a.src), .d (.int .i64 a.client), .d (.int .i64 a.view), .d (.int .i64 a.seq), .d (.int .i64 a.time), .d (.int .i64 a.offset), .d (.int .i64 a.dig), .d (.int .i64 a.rerr), .d (.int .i64 a.roff), .d (.str a.topic), .d (.int .i64 a.key), .d (.int .i64 a.sdig)]
theorem c_flatOf {σ : List zh} {a : zlS} {K : KT} (hK : K (fltMA a) σ) : zp Tryz.prog zfl [msgA a] σ K := by
 refine zeW zrC fun hl => ?_
 simp only [zlC,iN,bT,bF,eN,zl10]
 refine ziv ?_
 refine zT hl ?_
 exact hK
structure ziS (m : zlS) : Prop where
 batch : okB m.batch
 batchS : zoO m.batch
 signs : m.cert.signs.length ≤ 1073741824
 changes : m.changes.length ≤ 1073741824
 change : ∀ c ∈ m.changes,okCh c ∧ zmR c
 entries : m.entries.length ≤ 1073741824
 entry : ∀ x ∈ m.entries,okB x.batch ∧ zsd x
 proof : zgc m.proof
 topic : m.topic.length ≤ 16777216
 state : m.state.length ≤ 1073741824
theorem c_mSame {σ : List zh} {a b : zlS} (ha : ziS a) (hb : ziS b) {K : KT} (hK : K (.d (.bool (decide (a = b)))) σ) : zp Tryz.prog zjw [msgA a,msgA b] σ K := by
 refine zfY zub fun hl => ?_
 have fin : ∀ z,decide (a = b) = z → K (.d (.bool z)) σ := fun z h => h ▸ hK
 clear hK
 simp only [znP,iN,bT,bF,eN]
 refine ziv ?_
 refine c_flatOf (a := a) ?_
 refine ziv ?_
 refine c_flatOf (a := b) ?_
 cases h1 : ((a.kind == b.kind && (a.src == b.src && (a.client == b.client && (a.view == b.view && (a.seq == b.seq && (a.time == b.time && (a.offset == b.offset && (a.dig == b.dig && (a.rerr == b.rerr && (a.roff == b.roff && (a.topic == b.topic && (a.key == b.key && a.sdig == b.sdig)))))))))))))
 ·refine zru h1 ?_
  refine zT hl ?_
  exact fin _ (decide_eq_false fun h => by subst h; simp at h1)
 refine zru h1 ?_
 refine zte ha.batchS hb.batchS ?_
 cases h2 : decide (a.batch = b.batch)
 ·refine zbA h2 ?_
  refine zT hl ?_
  exact fin _ (decide_eq_false fun h => by subst h; simp at h2)
 refine gq34 h2 ?_
 refine zoA (a := a.cert) (b := b.cert) ha.signs ?_
 cases h3 : decide (a.cert = b.cert)
 ·refine zbA h3 ?_
  refine zT hl ?_
  exact fin _ (decide_eq_false fun h => by subst h; simp at h3)
 refine gq34 h3 ?_
 refine c_eqChanges ha.changes (fun x hx => (ha.change x hx).2) (fun x hx => (hb.change x hx).2) ?_
 cases h4 : decide (a.changes = b.changes)
 ·refine zbA h4 ?_
  refine zT hl ?_
  exact fin _ (decide_eq_false fun h => by subst h; simp at h4)
 refine gq34 h4 ?_
 refine c_eqEntries ha.entries (fun x hx => (ha.entry x hx).2) (fun x hx => (hb.entry x hx).2) ?_
 cases h5 : decide (a.entries = b.entries)
 ·refine zbA h5 ?_
  refine zT hl ?_
  exact fin _ (decide_eq_false fun h => by subst h; simp at h5)
 refine gq34 h5 ?_
 refine zib ?_
 cases h6 : (a.state == b.state)
 ·refine zbA h6 ?_
  refine zT hl ?_
  exact fin _ (decide_eq_false fun h => by subst h; simp at h6)
 refine gq34 h6 ?_
 refine c_mSameProof (a := a.proof) (b := b.proof) ha.proof ?_
 cases h7 : decide (a.proof = b.proof)
 ·refine zbA h7 ?_
  refine zT hl ?_
  exact fin _ (decide_eq_false fun h => by subst h; simp at h7)
 refine zbA h7 ?_
 refine zT hl ?_
 exact fin _ (decide_eq_true (by cases a; cases b; simp_all))
theorem c_intIndex {σ : List zh} {l : List Int} {x : Int} (hl0 : l.length ≤ 1073741824) {K : KT} (hK : ∀ i : Int,(0 ≤ i ↔ x ∈ l) → K (.d (.int .i64 i)) σ) :
  zp Tryz.prog zea [.d (.slice (zdK l)), .d (.int .i64 x)] σ K := by
 refine zfY zlN fun hl => ?_
 simp only [zgE,iN,bT,bF,eN]
 refine ziv ?_
 refine zr l.length (fun k vs s => vs = [.d (.int .i64 k)] ∧ (∃ T,s = σ ++ T) ∧ x ∉ l.take k) ⟨rfl,⟨[],by simp⟩,by simp⟩ ?_
 rintro k vs s hk ⟨rfl,⟨T,rfl⟩,htk⟩
 by_cases hlt : k < l.length
 ·have hd : decide ((k : Int) < (l.length : Int)) = true := by simp; omega
  have hx : l[k]? = some l[k] := by simp [hlt]
  have hmem := List.getElem_mem hlt
  have hgx := zS (f := fun t => [D.int .i64 t]) hx
  obtain ⟨y,hye⟩ : ∃ y,l[k] = y := ⟨_,rfl⟩
  rw [hye] at hx hgx hmem
  cases h : (x == y)
  ·refine zbA (zbe hd (zbe hgx (zbe h (wk1 k (by omega))))) ?_
   refine zaG.next hlt ⟨rfl,⟨_,rfl⟩, ?_⟩
   rw [List.take_add_one,hx]
   simp at h
   simp [htk,h]
  ·refine zbA (zbe hd (zbe hgx h)) ?_
   refine zT hl ?_
   refine hK _ ?_
   simp at h
   simp [h,hmem]
 ·have hd : decide ((k : Int) < (l.length : Int)) = false := by simp; omega
  refine zbA hd ?_
  refine zT hl ?_
  refine hK _ ?_
  rw [List.take_of_length_le (by omega)] at htk
  simp [htk]
theorem zww {σ : List zh} {l : List Int} {x : Int} (hl0 : l.length ≤ 1073741824) {K : KT} (hK : K (.d (.bool (decide (x ∈ l)))) σ) :
  zp Tryz.prog zdd [.d (.slice (zdK l)), .d (.int .i64 x)] σ K := by
 refine zfY zjI fun hl => ?_
 simp only [zfg,iN,bT,bF,eN]
 refine ziv ?_
 refine c_intIndex hl0 fun i hi => ?_
 have e : decide (i ≥ 0) = decide (x ∈ l) := by rw [decide_eq_decide,ge_iff_le,hi]
 refine ziv ?_
 rw [e]
 refine zT hl ?_
 exact hK
theorem c_mSigned {σ : List zh} {k : Int} {K : KT} (hK : K (.d (.bool (ownK k))) σ) : zp Tryz.prog zfk [.d (.int .i64 k)] σ K := by
 refine zeW zrB fun hl => ?_
 simp only [zlB,iN,bT,bF,eN]
 refine ziv ?_
 refine zww (l := [2, 3, 4, 5, 6, 8, 9]) (by simp) ?_
 have e : decide (k ∈ [2, 3, 4, 5, 6, 8, 9]) = ownK k := by
  unfold ownK
  rw [decide_eq_decide]
  simp
  omega
 rw [e]
 refine ziv ?_
 refine zT hl ?_
 exact hK
theorem znl.zero {σ S : List zh} {id : Nat} {B : zh} {P : List Int} (h : znl σ id B P S) : znl σ id B (P ++ [0]) S := by
 have e : zcD (P ++ [0]) = zcD P := by
  rw [zia]
  by_cases h : zcD P = 0
  ·rw [if_neg (by simpa using h),h]; rfl
  ·rw [if_pos h]
 obtain ⟨h1,h2,h3⟩ := h
 exact ⟨by rw [e]; exact h1,h2,by rw [e]; exact h3⟩
section
variable {σ S : List zh} {id n : Nat} {B X : zh} {P : List Int} {K : KT} (j : znl σ id B P S) (hid : id < σ.length) (hne : n ≠ id) (c : S[n]? = some X)
include j hid hne c
theorem jx_pos {x : Int} (hK : ∀ S,znl σ id B (P ++ [zvL x]) S → S[n]? = some X → K (.tup []) S) : zp Tryz.prog zbJ [.box id 0, .d (.int .i64 x)] S K := c_aPos j.a (hK _ (j.set hid _) ((List.getElem?_set_ne hne.symm).trans c))
end
theorem noPf_small : zgc zmc := ⟨by decide,by decide,by decide,by decide,by decide,by simp [zmc,ziM],by simp [zmc,ziM],by simp [zmc,ziM],by simp [zmc]⟩
theorem zik : ziS zgg := ⟨⟨by decide,by simp [zgg]⟩,⟨by decide,by simp [zgg]⟩,by decide,by decide,by simp [zgg],by decide,by simp [zgg],noPf_small,by decide,by decide⟩
theorem ite_small {c : Prop} [h : Decidable c] {a b : zlS} (ha : ziS a) (hb : ziS b) : ziS (if c then a else b) := by
 cases h
 ·rw [if_neg ‹_›]; exact hb
 ·rw [if_pos ‹_›]; exact ha
theorem bare_small {m : zlS} (h : ziS m) : ziS (bareF m) := by
 obtain ⟨h1,h2,h3,h4,h5,h6,h7,h8,h9,h10⟩ := h
 obtain ⟨n1,n2,n3,n4,n5,n6,n7,n8,n9,n10⟩ := zik
 unfold bareF
 repeat' refine ite_small ?_ ?_
 all_goals constructor <;> assumption
theorem znl.cong {σ S : List zh} {id : Nat} {B : zh} {P P' : List Int} (h : znl σ id B P S) (e : zcD P = zcD P') : znl σ id B P' S := by
 obtain ⟨h1,h2,h3⟩ := h
 exact ⟨e ▸ h1,h2,e ▸ h3⟩
abbrev hdrX (h : zcS) : zh := .box [.d (.int .i64 h.seq), .d (.int .i64 h.prev), .d (.int .i64 h.batch), .d (.int .i64 h.root), .d (.int .i64 h.state)]
theorem c_aProof {σ : List zh} {id : Nat} {P : List Int} {p : zcf} (hσ : σ[id]? = some (zgv (zcD P))) (hp : zgc p) {K : KT} (hK : K (.tup []) (σ.set id (zgv (zcD (P ++ ziV p))))) :
  zp Tryz.prog zct [.box id 0,zhy p] σ K := by
 refine zfY zhm fun hl => ?_
 have hid := zx hσ
 have hrl := zaH p.rec_
 have hhl : (ziO p.headers).length = p.headers.length := List.length_map ..
 have hpl : (zdK p.path).length = p.path.length := List.length_map ..
 have hph := hp.headers
 have hpb := hp.path
 simp only [zew,iN,bT,bF,eN,zhy]
 have j := znl.first hσ (zlZ p)
 refine ziv ?_
 refine j_name j hid (by have := hp.topic; omega) fun S j => ?_
 have b := j.b
 refine zbA b ?_
 refine j_num j hid fun S j => ?_
 have b := j.b
 refine zbA (zbe b hrl) ?_
 refine j_many j hid fun S j => ?_
 have b := j.b
 refine zbA (zbe b hhl) ?_
 refine j_many j hid fun S j => ?_
 have b := j.b
 obtain ⟨Q,hQ⟩ : ∃ Q,P ++ [ztP p.topic] ++ [ziN p.offset] ++ [inE p.rec_.length 0 64] ++ [inE p.headers.length 0 64] = Q := ⟨_,rfl⟩
 rw [hQ] at j
 have hQ1 : P ++ zge p = Q := by rw [← hQ]; simp [zge]
 refine zbA (zbe b hhl) ?_
 refine zr p.headers.length (fun k vs S => vs = [.d (.int .i64 k)] ∧ znl σ id (zlZ p) (Q ++ ((p.headers.take k).map zjb).flatten) S) ⟨rfl,by simpa using j⟩ ?_
 rintro k vs S hk ⟨rfl,j⟩
 by_cases hlt : k < p.headers.length
 ·have hd : decide ((k : Int) < (p.headers.length : Int)) = true := by simp; omega
  have hx : p.headers[k]? = some p.headers[k] := by simp [hlt]
  have hgx := zS (f := hdrD) hx
  obtain ⟨h,hhe⟩ : ∃ h,p.headers[k] = h := ⟨_,rfl⟩
  rw [hhe] at hx hgx
  have c : (S ++ [hdrX h])[S.length]? = some (hdrX h) := by rw [zy]; rfl
  have hne : S.length ≠ id := by obtain ⟨τ,h1⟩ := j.pre; rw [h1]; simp; omega
  have j := j.app [hdrX h]
  refine gq33 (zbe hd (zbe hgx hhl)) ?_
  obtain ⟨n,hn⟩ : ∃ n,S.length = n := ⟨_,rfl⟩
  obtain ⟨S0,hS0⟩ : ∃ S0,S ++ [hdrX h] = S0 := ⟨_,rfl⟩
  rw [hn] at c hne
  rw [hS0] at c j
  simp only [hdrX] at hS0 c
  rw [hn,hS0]
  refine jx_pos j hid hne c fun S j c => ?_
  have hg : ∀ (k : Nat) x, [h.prev,h.batch,h.root,h.state][k]? = some x → [[D.int .i64 h.prev], [D.int .i64 h.batch], [D.int .i64 h.root], [D.int .i64 h.state]][k]? = some [D.int .i64 x] := fun k x hx => by
   have := zS (f := fun t => [D.int .i64 t]) hx
   simpa using this
  have hhd : zjb h = [zvL h.seq] ++ [h.prev,h.batch,h.root,h.state].map ziN := rfl
  have hl4 : [h.prev,h.batch,h.root,h.state].length = 4 := rfl
  obtain ⟨R,hR⟩ : ∃ R,Q ++ ((p.headers.take k).map zjb).flatten ++ [zvL h.seq] = R := ⟨_,rfl⟩
  rw [hR] at j
  refine zbA c ?_
  obtain ⟨l,hlq⟩ : ∃ l, [h.prev,h.batch,h.root,h.state] = l := ⟨_,rfl⟩
  rw [hlq] at hg hhd hl4
  refine zr 4 (fun i vs S => vs = [.d (.int .i64 i)] ∧ znl σ id (zlZ p) (R ++ (l.take i).map ziN) S) ⟨rfl,by simpa using j⟩ ?_
  rintro i vs S hi ⟨rfl,j⟩
  by_cases hjl : i < 4
  ·have hd2 : decide ((i : Int) < ((4 : Nat) : Int)) = true := by simp; omega
   have hy : l[i]? = some (l[i]'(by omega)) := List.getElem?_eq_getElem _
   have hgy := hg i _ hy
   obtain ⟨y,hye⟩ : ∃ y,(l[i]'(by omega)) = y := ⟨_,rfl⟩
   rw [hye] at hy hgy
   have hmy := zdJ (f := ziN) hy
   refine zbA (zbe hd2 hgy) ?_
   refine j_num j hid fun S j => ?_
   refine zbA (wkc i (by omega)) ?_
   exact zaG.next hjl ⟨rfl,j.as (by rw [hmy]; simp)⟩
  ·have hd2 : decide ((i : Int) < ((4 : Nat) : Int)) = false := by simp; omega
   rw [List.take_of_length_le (by omega)] at j
   refine zbA (zbe hd2 (wkc k (by omega))) ?_
   refine zaG.next hlt ⟨rfl,j.as ?_⟩
   rw [flat_take hx, ← hR,hhd]; simp
 ·have hd : decide ((k : Int) < (p.headers.length : Int)) = false := by simp; omega
  rw [List.take_of_length_le (by omega)] at j
  have b := j.b
  have hix := hp.index
  have hct := hp.count
  refine zbA (zbe hd b) ?_
  refine j_num j hid fun S j => ?_
  have b := j.b
  refine zbA b ?_
  refine j_many j hid fun S j => ?_
  have b := j.b
  obtain ⟨R,hR⟩ : ∃ R,Q ++ (p.headers.map zjb).flatten ++ [ziN p.index] ++ [inE p.count 0 16] = R := ⟨_,rfl⟩
  rw [hR] at j
  refine zbA b ?_
  refine j_in j hid fun S j => ?_
  have j : znl σ id (zlZ p) (R ++ [inE p.index 0 (p.count - 1)]) S := j.cong (by
   by_cases hz : zcD R = 0
   ·have hc0 : inE p.count 0 16 = 0 := by
     rw [← hR,zia] at hz
     split at hz
     ·rename_i h; exact absurd hz h
     ·simp only [zcD] at hz
      split at hz
      ·rename_i h; exact absurd hz h
      ·rename_i h; simpa using h
    have := inE_0 hc0
    rw [show IntKind.i64.wrap (p.count - 1) = p.count - 1 from zac (by omega) (by omega)]
   ·rw [zsG hz,zsG hz])
  have b := j.b
  refine zbA (zbe b hpl) ?_
  refine j_many j hid fun S j => ?_
  have b := j.b
  obtain ⟨V,hV⟩ : ∃ V,R ++ [inE p.index 0 (p.count - 1)] ++ [inE p.path.length 0 8] = V := ⟨_,rfl⟩
  rw [hV] at j
  refine zbA (zbe b hpl) ?_
  refine zr p.path.length (fun k vs S => vs = [.d (.int .i64 k)] ∧ znl σ id (zlZ p) (V ++ (p.path.take k).map ziN) S) ⟨rfl,by simpa using j⟩ ?_
  rintro i vs S hi ⟨rfl,j⟩
  by_cases hjl : i < p.path.length
  ·have hd2 : decide ((i : Int) < (p.path.length : Int)) = true := by simp; omega
   have hy : p.path[i]? = some p.path[i] := by simp [hjl]
   have hgy := zS (f := fun t => [D.int .i64 t]) hy
   obtain ⟨y,hye⟩ : ∃ y,p.path[i] = y := ⟨_,rfl⟩
   rw [hye] at hy hgy
   have hmy := zdJ (f := ziN) hy
   refine zbA (zbe hd2 (zbe hgy hpl)) ?_
   refine j_num j hid fun S j => ?_
   refine zbA (wkc i (by omega)) ?_
   exact zaG.next hjl ⟨rfl,j.as (by rw [hmy]; simp)⟩
  ·have hd2 : decide ((i : Int) < (p.path.length : Int)) = false := by simp; omega
   rw [List.take_of_length_le (by omega)] at j
   have b := j.b
   refine zbA (zbe hd2 (zbe b hpl)) ?_
   refine j_cert (c := p.cert) j hid hp.signs fun S j => ?_
   refine ziv ?_
   refine (j.as ?_).done hl hK
   rw [← hV, ← hR, ← hQ1]
   simp [ziV,zcU,zjS]
theorem c_aMsg12 {σ : List zh} {id : Nat} {P : List Int} {m : zlS} (hσ : σ[id]? = some (zgv (zcD P))) (hm : ziS m) (hk : m.kind = 12) {K : KT} (hK : K (.tup []) (σ.set id (zgv (zcD (P ++ msgErr m))))) :
  zp Tryz.prog zdH [.box id 0,msgA m] σ K := by
 refine zfY zlj fun hl => ?_
 have hid := zx hσ
 simp only [zgy,iN,bT,bF,eN,zl9]
 have j := znl.first hσ (msgO m)
 refine zbA (kk12 hk) ?_
 refine j_broker j hid fun S j => ?_
 have b := j.b
 refine zbA (zbe b (kk12 hk)) ?_
 refine c_aProof (p := m.proof) j.a hm.proof ?_
 have j := j.set hid (P ++ [brkE m.src] ++ ziV m.proof)
 obtain ⟨S1,hS1⟩ : ∃ S1,S.set id (zgv (zcD (P ++ [brkE m.src] ++ ziV m.proof))) = S1 := ⟨_,rfl⟩
 rw [hS1] at j ⊢
 have b := j.b
 refine zbA (zbe b (kk12 hk)) ?_
 refine c_mSigned ?_
 refine zbA (zbe (show ownK m.kind = false by rw [hk]; rfl) b) ?_
 exact (j.as (by simp [msgErr,partsErr,hk,show ownK 12 = false from rfl])).done hl hK
theorem c_bare12 {σ : List zh} {m : zlS} (hk : m.kind = 12) {K : KT} (hK : K (msgA (bareF m)) σ) : zp Tryz.prog zjv [msgA m] σ K := by
 refine zeW zua fun hl => ?_
 simp only [znO,iN,bT,bF,eN,zl5]
 refine zbA (kk12 hk) ?_
 refine c_mSigned ?_
 refine zbA (show ownK m.kind = false by rw [hk]; rfl) ?_
 refine zT hl ?_
 simp only [bareF,hk] at hK
 rw [hk]
 exact hK
theorem c_mCheck12 {σ : List zh} {m : zlS} (hm : ziS m) (hk : m.kind = 12) {K : KT} (hK : K (.d (.int .i64 (zow m))) σ) : zp Tryz.prog zgn [msgA m] σ K := by
 refine zeW zsU fun hl => ?_
 have fin : ∀ z,zow m = z → K (.d (.int .i64 z)) σ := fun z h => h ▸ hK
 clear hK
 simp only [zmI,iN,bT,bF,eN]
 refine ziv ?_
 refine c_aMsg12 (P := []) (m := m) (by rw [List.getElem?_append_right (by omega)]; simp [zgv,zcD]) hm hk ?_
 cases h1 : (zcD (msgErr m) == 0)
 ·refine gq34 h1 ?_
  refine zT hl ?_
  exact fin _ (by simp at h1; simp [zow,h1])
 refine gq34 h1 ?_
 refine c_bare12 (m := m) hk ?_
 refine ziv ?_
 refine c_mSame (a := m) (b := bareF m) hm (bare_small hm) ?_
 cases h2 : decide (m = bareF m)
 ·refine ziv ?_
  refine zT hl ?_
  exact fin _ (by simp at h1 h2; simp [zow,h1,h2])
 ·refine zbA h1 ?_
  refine zT hl ?_
  exact fin _ (by simp at h1 h2; simp [zow,h1, ← h2])
end Go.Proofs.YtfgbofkdhfjegaaGreat

/- Ends of calls that keep objects told at the end; a result whose rows are let go. -/
namespace Go.AW
section
variable {P : Program} {σ : List zh}
theorem zp.frz {f : FuncId} {xs : List AV} {K : KT} (m : Nat) (h : zp P f xs σ fun r s => ∃ r',frzT s σ.length m r = some r' ∧ s.take σ.length = σ ∧ K r' σ) : zp P f xs σ K :=
 ⟨h.1,fun L w vs S hv => (h.2 L w vs S hv).mono fun e w' he => by
  cases e with
  | panicked _ => exact he
  | outgrown => exact he
  | returned v =>
   obtain ⟨L', σ',r,st,S',hr,r',hf,ht,hK⟩ := he
   have z2 : zfn σ.length (σ'.take σ.length) := by rw [ht]; exact S.lows
   have hS := S'.take z2
   have hst := st.take
   have hv := zuM S' (L2 := L') (σ2 := σ'.take σ.length) (fun b o => zoW) (fun t x ht hx hk b o hf hown => by
    obtain ⟨id,y,hy,hfy⟩ := hown
    rw [List.getElem?_take] at hy
    split at hy
    ·rename_i hid
     exact S'.apart id t y x b o (by omega) hy hx hfy hf
    ·cases hy) hr hf
   rw [ht] at hS hst hv
   exact ⟨L', σ,r',hst,hS,hv,hK⟩⟩
end
end Go.AW
