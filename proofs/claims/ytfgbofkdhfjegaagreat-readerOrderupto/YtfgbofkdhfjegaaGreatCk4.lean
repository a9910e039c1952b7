/- Contracts: what is asked, as a list of errors that grows. -/
import Derived.Test.YtfgbofkdhfjegaaGreatPt2
import Derived.Test.YtfgbofkdhfjegaaGreatOpC
import Derived.Test.YtfgbofkdhfjegaaGreatBt3
import Derived.Test.YtfgbofkdhfjegaaGreatSm2
import Derived.Test.YtfgbofkdhfjegaaGreatAwFrz
set_option linter.all false
set_option maxRecDepth 100000
namespace Go.Proofs.YtfgbofkdhfjegaaGreat
open Go.AW
theorem thn_apps (P l : List Int) : zhD (zcD P) (zcD l) = zcD (P ++ l) := by rw [← zjA (zcD P),zvt,zjA]
section
variable {σ : List zh} {id : Nat} {P : List Int} {K : KT}
theorem c_aIn {n lo hi : Int} (hσ : σ[id]? = some (zgf (zcD P))) (hK : K (.tup []) (σ.set id (zgf (zcD (P ++ [inE n lo hi]))))) : zr Tryz.prog zau [.box id 0, .d (.int .i64 n), .d (.int .i64 lo), .d (.int .i64 hi)] σ K := ztc hσ (by rw [zkt]; exact hK)
theorem c_aNum {n : Int} (hσ : σ[id]? = some (zgf (zcD P))) (hK : K (.tup []) (σ.set id (zgf (zcD (P ++ [ziM n]))))) : zr Tryz.prog zag [.box id 0, .d (.int .i64 n)] σ K := zlc hσ (by rw [zkt]; exact hK)
theorem c_aPos {n : Int} (hσ : σ[id]? = some (zgf (zcD P))) (hK : K (.tup []) (σ.set id (zgf (zcD (P ++ [zvE n]))))) : zr Tryz.prog zbR [.box id 0, .d (.int .i64 n)] σ K := c_askPos hσ (by rw [zkt]; exact hK)
theorem c_aMany {n hi : Int} (hσ : σ[id]? = some (zgf (zcD P))) (hK : K (.tup []) (σ.set id (zgf (zcD (P ++ [inE n 0 hi]))))) : zr Tryz.prog zaH [.box id 0, .d (.int .i64 n), .d (.int .i64 hi)] σ K := zka hσ (by rw [zkt]; exact hK)
theorem c_aName {x : List UInt8} (hσ : σ[id]? = some (zgf (zcD P))) (hx : x.length ≤ 1073741824) (hK : K (.tup []) (σ.set id (zgf (zcD (P ++ [ztL x]))))) : zr Tryz.prog zcb [.box id 0, .d (.str x)] σ K := c_askName hσ hx (by rw [zkt]; exact hK)
theorem c_aCert {c : zfj} (hσ : σ[id]? = some (zgf (zcD P))) (hl0 : c.signs.length ≤ 1073741824) (hK : K (.tup []) (σ.set id (zgf (zcD (P ++ zhg c))))) : zr Tryz.prog zcc [.box id 0,zoo c] σ K := c_askCert hσ hl0 (by rw [thn_apps]; exact hK)
end
structure zmX (σ : List zh) (id : Nat) (B : zh) (P : List Int) (S : List zh) : Prop where
 a : S[id]? = some (zgf (zcD P))
 b : S[σ.length]? = some B
 pre : ∃ τ,S = σ.set id (zgf (zcD P)) ++ τ
section
variable {σ S : List zh} {id : Nat} {B : zh} {P P' : List Int}
theorem zmX.first (hσ : σ[id]? = some (zgf (zcD P))) (B : zh) : zmX σ id B P (σ ++ [B]) := ⟨zd hσ,by rw [zy]; rfl, [B],by rw [zbo hσ]⟩
theorem zmX.set (h : zmX σ id B P S) (hid : id < σ.length) (P' : List Int) : zmX σ id B P' (S.set id (zgf (zcD P'))) := by
 obtain ⟨h1,h2, τ,h3⟩ := h
 refine ⟨List.getElem?_set_self (zA h1),(List.getElem?_set_ne (by omega)).trans h2, τ, ?_⟩
 rw [h3,List.set_append_left _ _ (by simpa using hid),List.set_set]
theorem zmX.app (h : zmX σ id B P S) (τ : List zh) : zmX σ id B P (S ++ τ) := by
 obtain ⟨h1,h2, τ',h3⟩ := h
 exact ⟨zd h1,zd h2, τ' ++ τ,by rw [h3,List.append_assoc]⟩
theorem zmX.done (h : zmX σ id B P S) {K : KT} (hl : zfs σ.length σ) (hK : K (.tup []) (σ.set id (zgf (zcD P)))) : AW.Ends σ.length K (some []) S := by
 obtain ⟨_,_, τ,rfl⟩ := h
 exact zhQ (by simp [zcC,dmT,zbT]) hl (zge _ _) hK
theorem zmX.as (h : zmX σ id B P S) (e : P = P') : zmX σ id B P' S := e ▸ h
end
section
variable {σ : List zh} {id : Nat} {P : List Int} {K : KT}
theorem c_aBroker {n : Int} (hσ : σ[id]? = some (zgf (zcD P))) (hK : K (.tup []) (σ.set id (zgf (zcD (P ++ [brkE n]))))) : zr Tryz.prog zaR [.box id 0, .d (.int .i64 n)] σ K := by
 refine zfJ zlG fun hl => ?_
 simp only [zgq,iN,bT,bF,eN]
 refine ziq ?_
 refine c_aIn hσ ?_
 exact zeo (by simp [zcC,dmT,zbT]) hl (zge _ _) hK
end
section
variable {σ S : List zh} {id : Nat} {B : zh} {P : List Int} {K : KT} (j : zmX σ id B P S) (hid : id < σ.length)
include j hid
theorem j_in {n lo hi : Int} (hK : ∀ S,zmX σ id B (P ++ [inE n lo hi]) S → K (.tup []) S) : zr Tryz.prog zau [.box id 0, .d (.int .i64 n), .d (.int .i64 lo), .d (.int .i64 hi)] S K := c_aIn j.a (hK _ (j.set hid _))
theorem j_num {n : Int} (hK : ∀ S,zmX σ id B (P ++ [ziM n]) S → K (.tup []) S) : zr Tryz.prog zag [.box id 0, .d (.int .i64 n)] S K := c_aNum j.a (hK _ (j.set hid _))
theorem j_many {n hi : Int} (hK : ∀ S,zmX σ id B (P ++ [inE n 0 hi]) S → K (.tup []) S) : zr Tryz.prog zaH [.box id 0, .d (.int .i64 n), .d (.int .i64 hi)] S K := c_aMany j.a (hK _ (j.set hid _))
theorem j_broker {n : Int} (hK : ∀ S,zmX σ id B (P ++ [brkE n]) S → K (.tup []) S) : zr Tryz.prog zaR [.box id 0, .d (.int .i64 n)] S K := c_aBroker j.a (hK _ (j.set hid _))
theorem j_name {x : List UInt8} (hx : x.length ≤ 1073741824) (hK : ∀ S,zmX σ id B (P ++ [ztL x]) S → K (.tup []) S) : zr Tryz.prog zcb [.box id 0, .d (.str x)] S K := c_aName j.a hx (hK _ (j.set hid _))
theorem j_cert {c : zfj} (hl0 : c.signs.length ≤ 1073741824) (hK : ∀ S,zmX σ id B (P ++ zhg c) S → K (.tup []) S) : zr Tryz.prog zcc [.box id 0,zoo c] S K := c_aCert j.a hl0 (hK _ (j.set hid _))
end
structure okCh (c : zgg) : Prop where
 signs : c.cert.signs.length ≤ 1073741824
 above : c.above.length ≤ 1073741824
 each : ∀ p ∈ c.above,p.signs.length ≤ 1073741824 ∧ okB p.batch
theorem flat_take {α β : Type} {f : α → List β} {l : List α} {k : Nat} {x : α} (h : l[k]? = some x) : ((l.take (k + 1)).map f).flatten = ((l.take k).map f).flatten ++ f x := by
 rw [zdM h]; simp
theorem c_mSameProof {σ : List zh} {a b : zca} (ha : zfM a) {K : KT} (hK : K (.d (.bool (decide (a = b)))) σ) : zr Tryz.prog zfA [zhh a,zhh b] σ K := by
 refine zfJ zof fun hl => ?_
 have fin : ∀ z,decide (a = b) = z → K (.d (.bool z)) σ := fun z h => h ▸ hK
 clear hK
 simp only [ziD,iN,bT,bF,eN]
 cases h1 : (a.topic == b.topic)
 ·refine zbK h1 ?_
  refine zV hl ?_
  exact fin _ (decide_eq_false fun h => by subst h; simp at h1)
 cases h2 : (a.offset == b.offset)
 ·refine zbK (zbc h1 h2) ?_
  refine zV hl ?_
  exact fin _ (decide_eq_false fun h => by subst h; simp at h2)
 refine gq34 (zbc h1 h2) ?_
 refine zlb ?_
 cases h3 : (a.rec_ == b.rec_)
 ·refine zbK h3 ?_
  refine zV hl ?_
  exact fin _ (decide_eq_false fun h => by subst h; simp at h3)
 refine gq34 h3 ?_
 refine c_eqHdr ha.headers ?_
 cases h4 : decide (a.headers = b.headers)
 ·refine zbK h4 ?_
  refine zV hl ?_
  exact fin _ (decide_eq_false fun h => by subst h; simp at h4)
 cases h5 : (a.index == b.index)
 ·refine zbK (zbc h4 h5) ?_
  refine zV hl ?_
  exact fin _ (decide_eq_false fun h => by subst h; simp at h5)
 cases h6 : (a.count == b.count)
 ·refine zbK (zbc h4 (zbc h5 h6)) ?_
  refine zV hl ?_
  exact fin _ (decide_eq_false fun h => by subst h; simp at h6)
 refine gq34 (zbc h4 (zbc h5 h6)) ?_
 refine c_eqDig ha.path ?_
 cases h7 : decide (a.path = b.path)
 ·refine zbK h7 ?_
  refine zV hl ?_
  exact fin _ (decide_eq_false fun h => by subst h; simp at h7)
 refine gq34 h7 ?_
 refine zor (a := a.cert) (b := b.cert) ha.signs ?_
 cases h8 : decide (a.cert = b.cert)
 ·refine zbK h8 ?_
  refine zV hl ?_
  exact fin _ (decide_eq_false fun h => by subst h; simp at h8)
 refine zbK h8 ?_
 refine zV hl ?_
 exact fin _ (decide_eq_true (by cases a; cases b; simp_all))
abbrev fltMA (a : zlj) : AV := .agg [.d (.int .i64 a.kind), .d (.int .i64 a.src), .d (.int .i64 a.client), .d (.int .i64 a.view), .d (.int .i64 a.seq), .d (.int .i64 a.time), .d (.int .i64 a.offset), .d (.int .i64 a.dig), .d (.int .i64 a.rerr), .d (.int .i64 a.roff), .d (.str a.topic), .d (.int .i64 a.key), .d (.int .i64 a.sdig)]
theorem c_flatOf {σ : List zh} {a : zlj} {K : KT} (hK : K (fltMA a) σ) : zr Tryz.prog zfp [msgA a] σ K := by
 refine zgk zrv fun hl => ?_
 simp only [zlr,iN,bT,bF,eN,zl10]
 refine ziq ?_
 refine zV hl ?_
 exact hK
structure ziR (m : zlj) : Prop where
 batch : okB m.batch
 batchS : zoD m.batch
 signs : m.cert.signs.length ≤ 1073741824
 changes : m.changes.length ≤ 1073741824
 change : ∀ c ∈ m.changes,okCh c ∧ zmD c
 entries : m.entries.length ≤ 1073741824
 entry : ∀ x ∈ m.entries,okB x.batch ∧ zrU x
 proof : zfM m.proof
 topic : m.topic.length ≤ 16777216
 state : m.state.length ≤ 1073741824
theorem c_mSame {σ : List zh} {a b : zlj} (ha : ziR a) (hb : ziR b) {K : KT} (hK : K (.d (.bool (decide (a = b)))) σ) : zr Tryz.prog zju [msgA a,msgA b] σ K := by
 refine zfJ ztW fun hl => ?_
 have fin : ∀ z,decide (a = b) = z → K (.d (.bool z)) σ := fun z h => h ▸ hK
 clear hK
 simp only [znE,iN,bT,bF,eN]
 refine ziq ?_
 refine c_flatOf (a := a) ?_
 refine ziq ?_
 refine c_flatOf (a := b) ?_
 cases h1 : ((a.kind == b.kind && (a.src == b.src && (a.client == b.client && (a.view == b.view && (a.seq == b.seq && (a.time == b.time && (a.offset == b.offset && (a.dig == b.dig && (a.rerr == b.rerr && (a.roff == b.roff && (a.topic == b.topic && (a.key == b.key && a.sdig == b.sdig)))))))))))))
 ·refine zrm h1 ?_
  refine zV hl ?_
  exact fin _ (decide_eq_false fun h => by subst h; simp at h1)
 refine zrm h1 ?_
 refine zsY ha.batchS hb.batchS ?_
 cases h2 : decide (a.batch = b.batch)
 ·refine zbK h2 ?_
  refine zV hl ?_
  exact fin _ (decide_eq_false fun h => by subst h; simp at h2)
 refine gq34 h2 ?_
 refine zor (a := a.cert) (b := b.cert) ha.signs ?_
 cases h3 : decide (a.cert = b.cert)
 ·refine zbK h3 ?_
  refine zV hl ?_
  exact fin _ (decide_eq_false fun h => by subst h; simp at h3)
 refine gq34 h3 ?_
 refine c_eqChanges ha.changes (fun x hx => (ha.change x hx).2) (fun x hx => (hb.change x hx).2) ?_
 cases h4 : decide (a.changes = b.changes)
 ·refine zbK h4 ?_
  refine zV hl ?_
  exact fin _ (decide_eq_false fun h => by subst h; simp at h4)
 refine gq34 h4 ?_
 refine c_eqEntries ha.entries (fun x hx => (ha.entry x hx).2) (fun x hx => (hb.entry x hx).2) ?_
 cases h5 : decide (a.entries = b.entries)
 ·refine zbK h5 ?_
  refine zV hl ?_
  exact fin _ (decide_eq_false fun h => by subst h; simp at h5)
 refine gq34 h5 ?_
 refine zlb ?_
 cases h6 : (a.state == b.state)
 ·refine zbK h6 ?_
  refine zV hl ?_
  exact fin _ (decide_eq_false fun h => by subst h; simp at h6)
 refine gq34 h6 ?_
 refine c_mSameProof (a := a.proof) (b := b.proof) ha.proof ?_
 cases h7 : decide (a.proof = b.proof)
 ·refine zbK h7 ?_
  refine zV hl ?_
  exact fin _ (decide_eq_false fun h => by subst h; simp at h7)
 refine zbK h7 ?_
 refine zV hl ?_
 exact fin _ (decide_eq_true (by cases a; cases b; simp_all))
theorem c_intIndex {σ : List zh} {l : List Int} {x : Int} (hl0 : l.length ≤ 1073741824) {K : KT} (hK : ∀ i : Int,(0 ≤ i ↔ x ∈ l) → K (.d (.int .i64 i)) σ) :
  zr Tryz.prog zea [.d (.slice (zdB l)), .d (.int .i64 x)] σ K := by
 refine zfJ zlC fun hl => ?_
 simp only [zgm,iN,bT,bF,eN]
 refine ziq ?_
 refine zt l.length (fun k vs s => vs = [.d (.int .i64 k)] ∧ (∃ T,s = σ ++ T) ∧ x ∉ l.take k) ⟨rfl,⟨[],by simp⟩,by simp⟩ ?_
 rintro k vs s hk ⟨rfl,⟨T,rfl⟩,htk⟩
 by_cases hlt : k < l.length
 ·have hd : decide ((k : Int) < (l.length : Int)) = true := by simp; omega
  have hx : l[k]? = some l[k] := by simp [hlt]
  have hmem := List.getElem_mem hlt
  have hgx := zR (f := fun t => [D.int .i64 t]) hx
  obtain ⟨y,hye⟩ : ∃ y,l[k] = y := ⟨_,rfl⟩
  rw [hye] at hx hgx hmem
  cases h : (x == y)
  ·refine zbK (zbc hd (zbc hgx (zbc h (wk1 k (by omega))))) ?_
   refine zaF.next hlt ⟨rfl,⟨_,rfl⟩, ?_⟩
   rw [List.take_add_one,hx]
   simp at h
   simp [htk,h]
  ·refine zbK (zbc hd (zbc hgx h)) ?_
   refine zV hl ?_
   refine hK _ ?_
   simp at h
   simp [h,hmem]
 ·have hd : decide ((k : Int) < (l.length : Int)) = false := by simp; omega
  refine zbK hd ?_
  refine zV hl ?_
  refine hK _ ?_
  rw [List.take_of_length_le (by omega)] at htk
  simp [htk]
theorem zwn {σ : List zh} {l : List Int} {x : Int} (hl0 : l.length ≤ 1073741824) {K : KT} (hK : K (.d (.bool (decide (x ∈ l)))) σ) :
  zr Tryz.prog zdk [.d (.slice (zdB l)), .d (.int .i64 x)] σ K := by
 refine zfJ zjw fun hl => ?_
 simp only [zfk,iN,bT,bF,eN]
 refine ziq ?_
 refine c_intIndex hl0 fun i hi => ?_
 have e : decide (i ≥ 0) = decide (x ∈ l) := by rw [decide_eq_decide,ge_iff_le,hi]
 refine ziq ?_
 rw [e]
 refine zV hl ?_
 exact hK
theorem c_mSigned {σ : List zh} {k : Int} {K : KT} (hK : K (.d (.bool (ownK k))) σ) : zr Tryz.prog zfo [.d (.int .i64 k)] σ K := by
 refine zgk zru fun hl => ?_
 simp only [zlq,iN,bT,bF,eN]
 refine ziq ?_
 refine zwn (l := [2, 3, 4, 5, 6, 8, 9]) (by simp) ?_
 have e : decide (k ∈ [2, 3, 4, 5, 6, 8, 9]) = ownK k := by
  unfold ownK
  rw [decide_eq_decide]
  simp
  omega
 rw [e]
 refine ziq ?_
 refine zV hl ?_
 exact hK
theorem zmX.zero {σ S : List zh} {id : Nat} {B : zh} {P : List Int} (h : zmX σ id B P S) : zmX σ id B (P ++ [0]) S := by
 have e : zcD (P ++ [0]) = zcD P := by
  rw [zhK]
  by_cases h : zcD P = 0
  ·rw [if_neg (by simpa using h),h]; rfl
  ·rw [if_pos h]
 obtain ⟨h1,h2,h3⟩ := h
 exact ⟨by rw [e]; exact h1,h2,by rw [e]; exact h3⟩
section
variable {σ S : List zh} {id n : Nat} {B X : zh} {P : List Int} {K : KT} (j : zmX σ id B P S) (hid : id < σ.length) (hne : n ≠ id) (c : S[n]? = some X)
include j hid hne c
theorem jx_pos {x : Int} (hK : ∀ S,zmX σ id B (P ++ [zvE x]) S → S[n]? = some X → K (.tup []) S) : zr Tryz.prog zbR [.box id 0, .d (.int .i64 x)] S K := c_aPos j.a (hK _ (j.set hid _) ((List.getElem?_set_ne hne.symm).trans c))
end
theorem noPf_small : zfM zlP := ⟨by decide,by decide,by decide,by decide,by decide,by simp [zlP,ziL],by simp [zlP,ziL],by simp [zlP,ziL],by simp [zlP]⟩
theorem zhT : ziR zfP := ⟨⟨by decide,by simp [zfP]⟩,⟨by decide,by simp [zfP]⟩,by decide,by decide,by simp [zfP],by decide,by simp [zfP],noPf_small,by decide,by decide⟩
theorem ite_small {c : Prop} [h : Decidable c] {a b : zlj} (ha : ziR a) (hb : ziR b) : ziR (if c then a else b) := by
 cases h
 ·rw [if_neg ‹_›]; exact hb
 ·rw [if_pos ‹_›]; exact ha
theorem bare_small {m : zlj} (h : ziR m) : ziR (bareF m) := by
 obtain ⟨h1,h2,h3,h4,h5,h6,h7,h8,h9,h10⟩ := h
 obtain ⟨n1,n2,n3,n4,n5,n6,n7,n8,n9,n10⟩ := zhT
 unfold bareF
 repeat' refine ite_small ?_ ?_
 all_goals constructor <;> assumption
theorem zmX.cong {σ S : List zh} {id : Nat} {B : zh} {P P' : List Int} (h : zmX σ id B P S) (e : zcD P = zcD P') : zmX σ id B P' S := by
 obtain ⟨h1,h2,h3⟩ := h
 exact ⟨e ▸ h1,h2,e ▸ h3⟩
abbrev hdrX (h : zcW) : zh := .box [.d (.int .i64 h.seq), .d (.int .i64 h.prev), .d (.int .i64 h.batch), .d (.int .i64 h.root), .d (.int .i64 h.state)]
theorem c_aProof {σ : List zh} {id : Nat} {P : List Int} {p : zca} (hσ : σ[id]? = some (zgf (zcD P))) (hp : zfM p) {K : KT} (hK : K (.tup []) (σ.set id (zgf (zcD (P ++ ziU p))))) :
  zr Tryz.prog zcp [.box id 0,zhh p] σ K := by
 refine zfJ zgV fun hl => ?_
 have hid := zA hσ
 have hrl := zaJ p.rec_
 have hhl : (zio p.headers).length = p.headers.length := List.length_map ..
 have hpl : (zdB p.path).length = p.path.length := List.length_map ..
 have hph := hp.headers
 have hpb := hp.path
 simp only [zes,iN,bT,bF,eN,zhh]
 have j := zmX.first hσ (zlN p)
 refine ziq ?_
 refine j_name j hid (by have := hp.topic; omega) fun S j => ?_
 have b := j.b
 refine zbK b ?_
 refine j_num j hid fun S j => ?_
 have b := j.b
 refine zbK (zbc b hrl) ?_
 refine j_many j hid fun S j => ?_
 have b := j.b
 refine zbK (zbc b hhl) ?_
 refine j_many j hid fun S j => ?_
 have b := j.b
 obtain ⟨Q,hQ⟩ : ∃ Q,P ++ [ztL p.topic] ++ [ziM p.offset] ++ [inE p.rec_.length 0 64] ++ [inE p.headers.length 0 64] = Q := ⟨_,rfl⟩
 rw [hQ] at j
 have hQ1 : P ++ zfO p = Q := by rw [← hQ]; simp [zfO]
 refine zbK (zbc b hhl) ?_
 refine zt p.headers.length (fun k vs S => vs = [.d (.int .i64 k)] ∧ zmX σ id (zlN p) (Q ++ ((p.headers.take k).map zja).flatten) S) ⟨rfl,by simpa using j⟩ ?_
 rintro k vs S hk ⟨rfl,j⟩
 by_cases hlt : k < p.headers.length
 ·have hd : decide ((k : Int) < (p.headers.length : Int)) = true := by simp; omega
  have hx : p.headers[k]? = some p.headers[k] := by simp [hlt]
  have hgx := zR (f := hdrD) hx
  obtain ⟨h,hhe⟩ : ∃ h,p.headers[k] = h := ⟨_,rfl⟩
  rw [hhe] at hx hgx
  have c : (S ++ [hdrX h])[S.length]? = some (hdrX h) := by rw [zy]; rfl
  have hne : S.length ≠ id := by obtain ⟨τ,h1⟩ := j.pre; rw [h1]; simp; omega
  have j := j.app [hdrX h]
  refine gq33 (zbc hd (zbc hgx hhl)) ?_
  obtain ⟨n,hn⟩ : ∃ n,S.length = n := ⟨_,rfl⟩
  obtain ⟨S0,hS0⟩ : ∃ S0,S ++ [hdrX h] = S0 := ⟨_,rfl⟩
  rw [hn] at c hne
  rw [hS0] at c j
  simp only [hdrX] at hS0 c
  rw [hn,hS0]
  refine jx_pos j hid hne c fun S j c => ?_
  have hg : ∀ (k : Nat) x, [h.prev,h.batch,h.root,h.state][k]? = some x → [[D.int .i64 h.prev], [D.int .i64 h.batch], [D.int .i64 h.root], [D.int .i64 h.state]][k]? = some [D.int .i64 x] := fun k x hx => by
   have := zR (f := fun t => [D.int .i64 t]) hx
   simpa using this
  have hhd : zja h = [zvE h.seq] ++ [h.prev,h.batch,h.root,h.state].map ziM := rfl
  have hl4 : [h.prev,h.batch,h.root,h.state].length = 4 := rfl
  obtain ⟨R,hR⟩ : ∃ R,Q ++ ((p.headers.take k).map zja).flatten ++ [zvE h.seq] = R := ⟨_,rfl⟩
  rw [hR] at j
  refine zbK c ?_
  obtain ⟨l,hlq⟩ : ∃ l, [h.prev,h.batch,h.root,h.state] = l := ⟨_,rfl⟩
  rw [hlq] at hg hhd hl4
  refine zt 4 (fun i vs S => vs = [.d (.int .i64 i)] ∧ zmX σ id (zlN p) (R ++ (l.take i).map ziM) S) ⟨rfl,by simpa using j⟩ ?_
  rintro i vs S hi ⟨rfl,j⟩
  by_cases hjl : i < 4
  ·have hd2 : decide ((i : Int) < ((4 : Nat) : Int)) = true := by simp; omega
   have hy : l[i]? = some (l[i]'(by omega)) := List.getElem?_eq_getElem _
   have hgy := hg i _ hy
   obtain ⟨y,hye⟩ : ∃ y,(l[i]'(by omega)) = y := ⟨_,rfl⟩
   rw [hye] at hy hgy
   have hmy := zdM (f := ziM) hy
   refine zbK (zbc hd2 hgy) ?_
   refine j_num j hid fun S j => ?_
   refine zbK (wkc i (by omega)) ?_
   exact zaF.next hjl ⟨rfl,j.as (by rw [hmy]; simp)⟩
  ·have hd2 : decide ((i : Int) < ((4 : Nat) : Int)) = false := by simp; omega
   rw [List.take_of_length_le (by omega)] at j
   refine zbK (zbc hd2 (wkc k (by omega))) ?_
   refine zaF.next hlt ⟨rfl,j.as ?_⟩
   rw [flat_take hx, ← hR,hhd]; simp
 ·have hd : decide ((k : Int) < (p.headers.length : Int)) = false := by simp; omega
  rw [List.take_of_length_le (by omega)] at j
  have b := j.b
  have hix := hp.index
  have hct := hp.count
  refine zbK (zbc hd b) ?_
  refine j_num j hid fun S j => ?_
  have b := j.b
  refine zbK b ?_
  refine j_many j hid fun S j => ?_
  have b := j.b
  obtain ⟨R,hR⟩ : ∃ R,Q ++ (p.headers.map zja).flatten ++ [ziM p.index] ++ [inE p.count 0 16] = R := ⟨_,rfl⟩
  rw [hR] at j
  refine zbK b ?_
  refine j_in j hid fun S j => ?_
  have j : zmX σ id (zlN p) (R ++ [inE p.index 0 (p.count - 1)]) S := j.cong (by
   by_cases hz : zcD R = 0
   ·have hc0 : inE p.count 0 16 = 0 := by
     rw [← hR,zhK] at hz
     split at hz
     ·rename_i h; exact absurd hz h
     ·simp only [zcD] at hz
      split at hz
      ·rename_i h; exact absurd hz h
      ·rename_i h; simpa using h
    have := inE_0 hc0
    rw [show IntKind.i64.wrap (p.count - 1) = p.count - 1 from zU (by omega) (by omega)]
   ·rw [zsy hz,zsy hz])
  have b := j.b
  refine zbK (zbc b hpl) ?_
  refine j_many j hid fun S j => ?_
  have b := j.b
  obtain ⟨V,hV⟩ : ∃ V,R ++ [inE p.index 0 (p.count - 1)] ++ [inE p.path.length 0 8] = V := ⟨_,rfl⟩
  rw [hV] at j
  refine zbK (zbc b hpl) ?_
  refine zt p.path.length (fun k vs S => vs = [.d (.int .i64 k)] ∧ zmX σ id (zlN p) (V ++ (p.path.take k).map ziM) S) ⟨rfl,by simpa using j⟩ ?_
  rintro i vs S hi ⟨rfl,j⟩
  by_cases hjl : i < p.path.length
  ·have hd2 : decide ((i : Int) < (p.path.length : Int)) = true := by simp; omega
   have hy : p.path[i]? = some p.path[i] := by simp [hjl]
   have hgy := zR (f := fun t => [D.int .i64 t]) hy
   obtain ⟨y,hye⟩ : ∃ y,p.path[i] = y := ⟨_,rfl⟩
   rw [hye] at hy hgy
   have hmy := zdM (f := ziM) hy
   refine zbK (zbc hd2 (zbc hgy hpl)) ?_
   refine j_num j hid fun S j => ?_
   refine zbK (wkc i (by omega)) ?_
   exact zaF.next hjl ⟨rfl,j.as (by rw [hmy]; simp)⟩
  ·have hd2 : decide ((i : Int) < (p.path.length : Int)) = false := by simp; omega
   rw [List.take_of_length_le (by omega)] at j
   have b := j.b
   refine zbK (zbc hd2 (zbc b hpl)) ?_
   refine j_cert (c := p.cert) j hid hp.signs fun S j => ?_
   refine ziq ?_
   refine (j.as ?_).done hl hK
   rw [← hV, ← hR, ← hQ1]
   simp [ziU,zcZ,zjF]
theorem c_aMsg12 {σ : List zh} {id : Nat} {P : List Int} {m : zlj} (hσ : σ[id]? = some (zgf (zcD P))) (hm : ziR m) (hk : m.kind = 12) {K : KT} (hK : K (.tup []) (σ.set id (zgf (zcD (P ++ msgErr m))))) :
  zr Tryz.prog zdK [.box id 0,msgA m] σ K := by
 refine zfJ zkV fun hl => ?_
 have hid := zA hσ
 simp only [zgi,iN,bT,bF,eN,zl9]
 have j := zmX.first hσ (msgO m)
 refine zbK (kk12 hk) ?_
 refine j_broker j hid fun S j => ?_
 have b := j.b
 refine zbK (zbc b (kk12 hk)) ?_
 refine c_aProof (p := m.proof) j.a hm.proof ?_
 have j := j.set hid (P ++ [brkE m.src] ++ ziU m.proof)
 obtain ⟨S1,hS1⟩ : ∃ S1,S.set id (zgf (zcD (P ++ [brkE m.src] ++ ziU m.proof))) = S1 := ⟨_,rfl⟩
 rw [hS1] at j ⊢
 have b := j.b
 refine zbK (zbc b (kk12 hk)) ?_
 refine c_mSigned ?_
 refine zbK (zbc (show ownK m.kind = false by rw [hk]; rfl) b) ?_
 exact (j.as (by simp [msgErr,partsErr,hk,show ownK 12 = false from rfl])).done hl hK
theorem c_bare12 {σ : List zh} {m : zlj} (hk : m.kind = 12) {K : KT} (hK : K (msgA (bareF m)) σ) : zr Tryz.prog zjt [msgA m] σ K := by
 refine zgk ztV fun hl => ?_
 simp only [znD,iN,bT,bF,eN,zl5]
 refine zbK (kk12 hk) ?_
 refine c_mSigned ?_
 refine zbK (show ownK m.kind = false by rw [hk]; rfl) ?_
 refine zV hl ?_
 simp only [bareF,hk] at hK
 rw [hk]
 exact hK
theorem c_mCheck12 {σ : List zh} {m : zlj} (hm : ziR m) (hk : m.kind = 12) {K : KT} (hK : K (.d (.int .i64 (zon m))) σ) : zr Tryz.prog zhZ [msgA m] σ K := by
 refine zgk zsM fun hl => ?_
 have fin : ∀ z,zon m = z → K (.d (.int .i64 z)) σ := fun z h => h ▸ hK
 clear hK
 simp only [zmv,iN,bT,bF,eN]
 refine ziq ?_
 refine c_aMsg12 (P := []) (m := m) (by rw [List.getElem?_append_right (by omega)]; simp [zgf,zcD]) hm hk ?_
 cases h1 : (zcD (msgErr m) == 0)
 ·refine gq34 h1 ?_
  refine zV hl ?_
  exact fin _ (by simp at h1; simp [zon,h1])
 refine gq34 h1 ?_
 refine c_bare12 (m := m) hk ?_
 refine ziq ?_
 refine c_mSame (a := m) (b := bareF m) hm (bare_small hm) ?_
 cases h2 : decide (m = bareF m)
 ·refine ziq ?_
  refine zV hl ?_
  exact fin _ (by simp at h1 h2; simp [zon,h1,h2])
 ·refine zbK h1 ?_
  refine zV hl ?_
  exact fin _ (by simp at h1 h2; simp [zon,h1, ← h2])
end Go.Proofs.YtfgbofkdhfjegaaGreat

/- Ends of calls that keep objects told at the end; a result whose rows are let go. -/
namespace Go.AW
section
variable {P : Program} {σ : List zh}
theorem zr.frz {f : FuncId} {xs : List AV} {K : KT} (m : Nat) (h : zr P f xs σ fun r s => ∃ r',frzT s σ.length m r = some r' ∧ s.take σ.length = σ ∧ K r' σ) : zr P f xs σ K :=
 ⟨h.1,fun L w vs S hv => (h.2 L w vs S hv).mono fun e w' he => by
  cases e with
  | panicked _ => exact he
  | outgrown => exact he
  | returned v =>
   obtain ⟨L', σ',r,st,S',hr,r',hf,ht,hK⟩ := he
   have z2 : zfs σ.length (σ'.take σ.length) := by rw [ht]; exact S.lows
   have hS := S'.take z2
   have hst := st.take
   have hv := zuF S' (L2 := L') (σ2 := σ'.take σ.length) (fun b o => zoK) (fun t x ht hx hk b o hf hown => by
    obtain ⟨id,y,hy,hfy⟩ := hown
    rw [List.getElem?_take] at hy
    split at hy
    ·rename_i hid
     exact S'.apart id t y x b o (by omega) hy hx hfy hf
    ·cases hy) hr hf
   rw [ht] at hS hst hv
   exact ⟨L', σ,r',hst,hS,hv,hK⟩⟩
end
end Go.AW
