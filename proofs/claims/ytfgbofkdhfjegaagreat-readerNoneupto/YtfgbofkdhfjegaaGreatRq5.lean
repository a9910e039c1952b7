/- Contracts: what the document says of sealed requests. -/
import Derived.Test.YtfgbofkdhfjegaaGreatCk1
import Derived.Test.YtfgbofkdhfjegaaGreatMk4
import Derived.Test.YtfgbofkdhfjegaaGreatMk2
import Derived.Test.YtfgbofkdhfjegaaGreatCl1
set_option linter.all false
set_option maxRecDepth 100000
namespace Go.Proofs.YtfgbofkdhfjegaaGreat
open Go.AW
theorem c_rqrKey {σ : List zh} {c : Int} {K : KT} (hK : K (.d (.int .i64 (keyF c))) σ) : zp Tryz.prog zme [.d (.int .i64 c)] σ K := c_rKey hK
theorem c_rqrSeal {σ : List zh} {id id2 : Nat} {L : List (List UInt8)} {G : List zI} {x : zq} (hT : σ[id]? = some (rtO L)) (hG : σ[id2]? = some (rlO G)) (h1 : id ≠ id2) (hL : zlT L) (hGl : G.length ≤ 1073741824)
  (hx : zkF x.op ≤ 20971520) {K : KT}
  (hK : K (.tup [zkJ (zlW L x), .d (.int .i64 (ztN L x))]) ((σ.set id (rtO (zpW L x))).set id2 (rlO (zsg L G x)))) : zp Tryz.prog zmY [.box id 0, .box id2 0,reqA x] σ K := by
 refine acE3 e_r08_Seal fun hl => ?_
 have hsz := sizes hx
 simp only [zvn,iN,bT,bF,eN,zl8,reqA]
 refine gq1 ?_
 refine zuW (x := x) hx ?_
 by_cases hc : zaA x = 0
 ·have hb : (zaA x != 0) = false := by simpa using hc
  have hrl := zrJ (x := x) (by omega) hc
  refine gq2 hb ?_
  refine c_rqrKey ?_
  rw [show zhb x = zrK x from if_pos hc]
  refine gq1 ?_
  refine zlm (zd hT) (by omega) hL.len ?_
  rw [zcd hT]
  simp only [zpW,zsg,hc,ne_eq,not_true_eq_false,if_false] at hK
  have e1 : ztN L x = zeh (keyF x.client) (zdw L (zrK x)) := by rw [ztN,if_neg (by simpa using hc)]
  rw [e1] at hK
  have hl1 : zfn σ.length (σ.set id (rtO (zeI L (zrK x)))) := hl.setO (zfs _ _)
  have hs1 : (σ.set id (rtO (zeI L (zrK x)))).length = σ.length := by simp
  have hG1 : (σ.set id (rtO (zeI L (zrK x))))[id2]? = some (rlO G) := by rw [List.getElem?_set_ne h1]; exact hG
  obtain ⟨S1,hS1⟩ : ∃ S1, σ.set id (rtO (zeI L (zrK x))) = S1 := ⟨_,rfl⟩
  rw [hS1] at hK hG1 hs1 hl1 ⊢
  have r1 : σ.length = S1.length := hs1.symm
  refine gq2 r1 ?_
  refine c_rgSign (zd hG1) hGl ?_
  rw [zcd hG1]
  obtain ⟨N,hN⟩ : ∃ N,zeh (keyF x.client) (zdw L (zrK x)) = N := ⟨_,rfl⟩
  have hl2 : zfn σ.length (S1.set id2 (rlO (zfW G (keyF x.client) (zdw L (zrK x))))) := hl1.setO (rlO_low _ _)
  have hs2 : (S1.set id2 (rlO (zfW G (keyF x.client) (zdw L (zrK x))))).length = S1.length := by simp
  obtain ⟨S2,hS2⟩ : ∃ S2,S1.set id2 (rlO (zfW G (keyF x.client) (zdw L (zrK x)))) = S2 := ⟨_,rfl⟩
  rw [hS2] at hK hs2 hl2 ⊢
  have r2 : σ.length = S2.length := by rw [r1]; exact hs2.symm
  have r3 : S1.length = S2.length := hs2.symm
  rw [r2] at hl2
  rw [hN] at hK ⊢
  simp only [zvE]
  by_cases hN0 : N = 0
  ·have hq : (N != 0) = false := by simpa using hN0
   have e2 : zlW L x = ⟨x.client,x.time,x.op,keyF x.client,zdw L (zrK x)⟩ := by rw [zlW,if_pos (by rw [e1,hN,hN0])]
   have e3 : signR (keyF x.client) (zdw L (zrK x)) = ⟨keyF x.client,zdw L (zrK x)⟩ := by rw [signR,if_pos (by rw [hN,hN0])]
   rw [e2] at hK
   rw [e3]
   refine gq2 (zf hq (zf r2 r3)) ?_
   rw [hN0] at hK
   refine zef rfl ?_ hl2 ?_
   ·simp [zeU,dmT,dm,dm1,zcC,zbL,zeV]
   ·exact hK
  ·have hq : (N != 0) = true := by simpa using hN0
   have e2 : zlW L x = noSg := by rw [zlW,if_neg (by rw [e1,hN]; exact hN0)]
   rw [e2] at hK
   rw [show signR (keyF x.client) (zdw L (zrK x)) = ⟨0, 0⟩ from by rw [signR,if_neg (by rw [hN]; exact hN0)]]
   refine gq2 (zf hq (zf r2 r3)) ?_
   refine zef rfl ?_ hl2 ?_
   ·simp [zeU,dmT,dm,dm1,zcC,zbL,zeV]
   ·exact hK
 ·have hb : (zaA x != 0) = true := by simpa using hc
  have e1 : ztN L x = zaA x := if_pos hc
  have e2 : zlW L x = noSg := by rw [zlW,if_neg (by rw [e1]; exact hc)]
  rw [e1,e2,zpW,zsg,if_pos hc,if_pos hc,zbq hT,zbq hG] at hK
  refine gq2 hb ?_
  refine zT hl ?_
  exact hK
theorem c_rqrDigest {σ : List zh} {id : Nat} {L : List (List UInt8)} {l : List zq} (hT : σ[id]? = some (rtO L)) (hL : zlT L)
  (hx : ∀ s ∈ l,zkF s.op ≤ 20971520) (hll : l.length ≤ 1073741824) {K : KT} (hK : K (.tup [.d (.int .i64 (digD L l)), .d (.int .i64 (digE L l))]) (σ.set id (rtO (zlk L l)))) :
  zp Tryz.prog zmf [.box id 0, .d (.slice (zdi l))] σ K := by
 refine zfY e_r08_Digest fun hl => ?_
 have hok : okB l := ⟨hll,fun s hs => sizes (hx s hs)⟩
 simp only [zrf,iN,bT,bF,eN]
 refine gq1 ?_
 refine zpt hok ?_
 by_cases hc : zV l = 0
 ·have hq : (zV l != 0) = false := by simpa using hc
  have hbl := znG hx
  have hc' : ¬ zV l ≠ 0 := by simpa using hc
  rw [show digD L l = zdw L (zkp l) from if_neg hc',show zlk L l = zeI L (zkp l) from if_neg hc',show digE L l = if zdw L (zkp l) = 0 then 6 else 0 from if_neg hc'] at hK
  refine gq2 hq ?_
  refine c_rPutBatch (b := []) (by simp) hx hll ?_
  rw [List.nil_append,show zfA l = zkp l from if_pos hc] at *
  refine gq1 ?_
  refine zlm hT (by omega) hL.len ?_
  have hl1 : zfn σ.length (σ.set id (rtO (zeI L (zkp l)))) := hl.setO (zfs _ _)
  by_cases h0 : zdw L (zkp l) = 0
  ·rw [if_pos h0] at hK
   rw [h0] at hK ⊢
   refine gq5 ?_
   refine zhi (by simp) ?_ hl1 ?_
   ·simp [zeU,dmT,dm,dm1,zcC,zbL]
   ·exact hK
  ·rw [if_neg h0] at hK
   have h0' : (zdw L (zkp l) == 0) = false := by simpa using h0
   refine gq2 h0' ?_
   refine zhi (by simp) ?_ hl1 ?_
   ·simp [zeU,dmT,dm,dm1,zcC,zbL]
   ·exact hK
 ·have hq : (zV l != 0) = true := by simpa using hc
  rw [digD,digE,zlk,if_pos hc,if_pos hc,if_pos hc,zbq hT] at hK
  refine gq2 hq ?_
  refine zT hl ?_
  exact hK
theorem c_auMay {σ : List zh} {a b c d : Int} {K : KT} (hK : K (.d (.bool (zqS a b c d))) σ) :
  zp Tryz.prog zql [.d (.int .i64 a), .d (.int .i64 b), .d (.int .i64 c), .d (.int .i64 d)] σ K := by
 refine acE4 e_auth_may fun hl => ?_
 rw [mayV_all] at hK
 simp only [zvy,iN,bT,bF,eN]
 refine gq1 ?_
 have hg : ∀ (k : Nat) x, [a,b,c,d][k]? = some x → [[D.int .i64 a], [D.int .i64 b], [D.int .i64 c], [D.int .i64 d]][k]? = some [D.int .i64 x] := fun k x h => by
  have := zS (f := fun t => [D.int .i64 t]) h
  simpa using this
 have hl4 : [a,b,c,d].length = 4 := rfl
 obtain ⟨l,hlq⟩ : ∃ l, [a,b,c,d] = l := ⟨_,rfl⟩
 rw [hlq] at hK hl4 hg
 refine zr 4 (fun k vs s => vs = [.d (.int .i64 k)] ∧ (∃ T,s = σ ++ T) ∧ (l.take k).all zdc = true) ⟨rfl,⟨[],(List.append_nil σ).symm⟩,by simp⟩ ?_
 rintro k vs s hk ⟨rfl,⟨T,rfl⟩,hok⟩
 by_cases hlt : k < 4
 ·have hd : decide ((k : Int) < ((4 : Nat) : Int)) = true := by simp; omega
  have hx : l[k]? = some (l[k]'(by omega)) := List.getElem?_eq_getElem _
  have hgx := hg k _ hx
  obtain ⟨x,hxe⟩ : ∃ x,(l[k]'(by omega)) = x := ⟨_,rfl⟩
  rw [hxe] at hx hgx
  have bad : zdc x = false → l.all zdc = false := fun h => by
   rw [Bool.eq_false_iff]
   intro hall
   have := List.all_eq_true.1 hall x (List.mem_of_getElem? hx)
   rw [h] at this; cases this
  have hx2 : zdc x = (decide (0 ≤ x) && decide (x ≤ 9007199254740992)) := by simp [zdc]
  cases h1 : decide (x < 0)
  ·cases h2 : decide (x > 9007199254740992)
   ·refine gq2 (zf hd (zf hgx (zf h1 (zf h2 (wki k (by omega)))))) ?_
    refine zaG.next hlt ⟨rfl,⟨_,rfl⟩, ?_⟩
    rw [List.take_add_one,hx]
    simp only [List.all_append,hok,Option.toList_some,List.all_cons,List.all_nil,Bool.true_and,Bool.and_true]
    simp at h1 h2
    simp [zdc]; omega
   ·rw [bad (by simp at h2; simp [zdc]; omega)] at hK
    refine gq2 (zf hd (zf hgx (zf h1 h2))) ?_
    refine zT hl ?_
    exact hK
  ·rw [bad (by simp at h1; simp [zdc]; omega)] at hK
   refine gq2 (zf hd (zf hgx h1)) ?_
   refine zT hl ?_
   exact hK
 ·have hd : decide ((k : Int) < ((4 : Nat) : Int)) = false := by simp; omega
  rw [List.take_of_length_le (by omega)] at hok
  rw [hok] at hK
  refine gq2 hd ?_
  refine zT hl ?_
  exact hK
theorem c_auPut {σ : List zh} {b : List UInt8} {l : List Int} (hb : b.length ≤ 1000000) (hl0 : l.length ≤ 1000) (hi : ∀ x ∈ l, 0 ≤ x ∧ x ≤ 9007199254740992) {K : KT} (hK : K (.d (.slice (bcs (b ++ zhU l)))) σ) :
  zp Tryz.prog zqk [.d (.slice (bcs b)), .d (.slice (zdK l))] σ K := by
 refine zfY e_auth_put fun hl => ?_
 simp only [zvx,iN,bT,bF,eN]
 refine gq1 ?_
 refine zr l.length (fun k vs s => (∃ x,vs = [x, .d (.int .i64 k)] ∧ (x = .d (.slice (bcs (b ++ zhU (l.take k)))) ∨ ∃ t,x = .own t (bcs (b ++ zhU (l.take k))))) ∧ ∃ T,s = σ ++ T) ⟨⟨_,rfl, .inl (by simp [zhU])⟩, [],by simp⟩ ?_
 rintro k vs s hk ⟨⟨y,rfl,hy⟩,T,rfl⟩
 have hdy : dm y = .d (.slice (bcs (b ++ zhU (l.take k)))) := by
  rcases hy with rfl | ⟨t,rfl⟩ <;> rfl
 by_cases hlt : k < l.length
 ·have hd : decide ((k : Int) < (l.length : Int)) = true := by simp; omega
  have hx : l[k]? = some l[k] := by simp [hlt]
  have hxi := hi _ (List.getElem_mem hlt)
  have hgx := zS (f := fun t => [D.int .i64 t]) hx
  obtain ⟨x,hxe⟩ : ∃ x,l[k] = x := ⟨_,rfl⟩
  rw [hxe] at hx hgx hxi
  have hm1 : (if x > 0 then x else 0) = x := by split <;> omega
  have hm2 : (if 0 < x then x else 0) = x := by split <;> omega
  have hw : IntKind.u64.wrap x = ((x.toNat : Nat) : Int) := by
   rw [show x = ((x.toNat : Nat) : Int) by omega,zcQ (by omega)]; rfl
  have hln := zmb (l := l.take k) (fun y hy => by have := hi y (List.mem_of_mem_take hy); omega)
  have hlk : (l.take k).length = k := by rw [List.length_take]; omega
  have hw2 : IntKind.i64.wrap ((k : Int) + 1) = ((k + 1 : Nat) : Int) := by rw [zac (by omega) (by omega)]; rfl
  have hbl : (b ++ zhU (l.take k)).length ≤ 1073741824 := by rw [List.length_append]; omega
  rcases hy with rfl | ⟨t,rfl⟩
  ·refine gq2 (zf hd (zf hgx (zf hm1 (zf hm2 hw)))) ?_
   refine zlp (by omega) hbl ?_
   refine gq2 hw2 ?_
   exact zaG.next hlt ⟨⟨_,rfl, .inr ⟨_,by rw [zmW hx]⟩⟩,_,rfl⟩
  ·refine gq2 (zf hd (zf hgx (zf hm1 (zf hm2 hw)))) ?_
   refine zlp (by omega) hbl ?_
   refine gq2 hw2 ?_
   exact zaG.next hlt ⟨⟨_,rfl, .inr ⟨_,by rw [zmW hx]⟩⟩,_,rfl⟩
 ·have hd : decide ((k : Int) < (l.length : Int)) = false := by simp; omega
  rw [List.take_of_length_le (by omega)] at hy
  rcases hy with rfl | ⟨t,rfl⟩
  ·refine gq2 hd ?_
   refine zT hl ?_
   exact hK
  ·refine gq2 hd ?_
   refine zT hl ?_
   exact hK
theorem may_all {a b c d : Int} (h : zqS a b c d = true) : ∀ x ∈ [a,b,c,d], 0 ≤ x ∧ x ≤ 9007199254740992 := by
 rw [mayV_all,List.all_eq_true] at h
 exact fun x hx => zeY.1 (h x hx)
theorem zwA {σ : List zh} {a b c d : Int} (h : zqS a b c d = true) {K : KT} (hK : K (.d (.slice (bcs (zfZ a b c d)))) σ) :
  zp Tryz.prog zhv [.d (.int .i64 a), .d (.int .i64 b), .d (.int .i64 c), .d (.int .i64 d)] σ K := by
 refine acE4 zrD fun hl => ?_
 simp only [zlG,iN,bT,bF,eN]
 refine gq1 ?_
 refine c_auPut (b := [4]) (l := [a,b,c,d]) (by simp) (by simp) (may_all h) ?_
 refine gq1 ?_
 refine zT hl ?_
 exact hK
theorem c_auMade {σ : List zh} {id m t id2 m2 t2 : Nat} {l : List (List UInt8)} {g : List zI} (hT : zdh σ id m t l) (hG : zee σ id2 m2 t2 g) (hL : zlT l) (hg : g.length ≤ 1073741824) {K : KT}
  (hK : K (.d (.bool true)) σ) : zp Tryz.prog zoe [.box id 0, .box id2 0] σ K := by
 refine zfY e_auth_made fun hl => ?_
 simp only [ztG,iN,bT,bF,eN]
 refine gq1 ?_
 refine znh hT hL.nd hL.len hL.each ?_
 refine gq1 ?_
 refine zpv (hG.app _) hg fun g' => ?_
 refine gq1 ?_
 refine zT hl ?_
 exact hK
theorem c_auSigned {σ : List zh} {id m t id2 m2 t2 : Nat} {L : List (List UInt8)} {G : List zI} {s : zI} {key : Int} {b : List UInt8} (hT : zdh σ id m t L) (hG : zee σ id2 m2 t2 G) {K : KT}
  (hK : K (.d (.bool (znV L G s key b))) σ) : zp Tryz.prog zlc [.box id 0, .box id2 0, .agg [.d (.int .i64 s.key), .d (.int .i64 s.dig)], .d (.int .i64 key), .d (.slice (bcs b))] σ K := by
 refine acE5 zwi fun hl => ?_
 have hT1 := fun τ => hT.app τ
 have hG1 := fun τ => hG.app τ
 simp only [zpO,iN,bT,bF,eN]
 refine gq1 ?_
 refine zoz (hT1 _) ?_
 have fin : ∀ z,znV L G s key b = z → K (.d (.bool z)) σ := fun z h => h ▸ hK
 clear hK
 cases hlk : zcW L b with
 | none =>
  refine gq5 ?_
  refine zT hl ?_
  exact fin _ (by simp [znV,hlk])
 | some i =>
  simp only [zjU]
  cases h1 : (s.key == key)
  ·refine gq8 h1 ?_
   refine zT hl ?_
   exact fin _ (by simp at h1; simp [znV,hlk,h1])
  ·cases h2 : (s.dig == ((i + 1 : Nat) : Int))
   ·refine gq8 (zf h1 h2) ?_
    refine zT hl ?_
    exact fin _ (by simp at h1 h2; simp [znV,hlk,h1]; omega)
   ·refine gq8 (zf h1 h2) ?_
    refine c_gSigned (s := s) (hG1 _) ?_
    refine gq1 ?_
    refine zT hl ?_
    exact fin _ (by simp at h1 h2; simp [znV,hlk,h1,h2])
theorem zwB {σ : List zh} {id m t id2 m2 t2 : Nat} {L : List (List UInt8)} {G : List zI} {s : zI} {key a b c d : Int} (hT : zdh σ id m t L) (hG : zee σ id2 m2 t2 G) (hL : zlT L) (hg : G.length ≤ 1073741824) {K : KT}
  (hK : K (.d (.bool (zrT L G s key a b c d))) σ) :
  zp Tryz.prog zhw [.box id 0, .box id2 0, .agg [.d (.int .i64 s.key), .d (.int .i64 s.dig)], .d (.int .i64 key), .d (.int .i64 a), .d (.int .i64 b), .d (.int .i64 c), .d (.int .i64 d)] σ K := by
 refine acE8 zrE fun hl => ?_
 simp only [zlH,iN,bT,bF,eN]
 refine gq1 ?_
 refine c_auMade (hT.app _) (hG.app _) hL hg ?_
 refine gq1 ?_
 refine c_auMay ?_
 cases hm : zqS a b c d
 ·rw [zrT,hm,Bool.false_and] at hK
  refine gq1 ?_
  refine zT hl ?_
  exact hK
 ·rw [zrT,hm,Bool.true_and] at hK
  refine gq1 ?_
  refine zwA hm ?_
  refine gq1 ?_
  refine c_auSigned (s := s) (hT.app _) (hG.app _) ?_
  refine gq1 ?_
  refine zT hl ?_
  exact hK
end Go.Proofs.YtfgbofkdhfjegaaGreat

/- What a new view goes on with. No program in sight. -/
namespace Go.AW
def zdz (f : Int) : Int := if f < 1 ∨ f > 4 then 120 else 0
def zgB (n f : Int) : Int := if f < 1 ∨ f > 4 then 0 else n * f + 1
end Go.AW
