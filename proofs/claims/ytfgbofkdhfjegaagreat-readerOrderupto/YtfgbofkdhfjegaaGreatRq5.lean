/- Contracts: what the document says of sealed requests. -/
import Derived.Test.YtfgbofkdhfjegaaGreatCk1
import Derived.Test.YtfgbofkdhfjegaaGreatMk4
import Derived.Test.YtfgbofkdhfjegaaGreatMk2
import Derived.Test.YtfgbofkdhfjegaaGreatCl1
set_option linter.all false
set_option maxRecDepth 100000
namespace Go.Proofs.YtfgbofkdhfjegaaGreat
open Go.AW
theorem c_rqrKey {σ : List zh} {c : Int} {K : KT} (hK : K (.d (.int .i64 (keyF c))) σ) : zr Tryz.prog zlS [.d (.int .i64 c)] σ K := c_rKey hK
theorem c_rqrSeal {σ : List zh} {id id2 : Nat} {L : List (List UInt8)} {G : List zJ} {x : zp} (hT : σ[id]? = some (rtO L)) (hG : σ[id2]? = some (rlO G)) (h1 : id ≠ id2) (hL : zlH L) (hGl : G.length ≤ 1073741824)
  (hx : zkr x.op ≤ 20971520) {K : KT}
  (hK : K (.tup [zkw (zlK L x), .d (.int .i64 (ztJ L x))]) ((σ.set id (rtO (zpP L x))).set id2 (rlO (zrX L G x)))) : zr Tryz.prog zmK [.box id 0, .box id2 0,reqA x] σ K := by
 refine acE3 e_r08_Seal fun hl => ?_
 have hsz := sizes hx
 simp only [zvg,iN,bT,bF,eN,zl8,reqA]
 refine gq1 ?_
 refine zuP (x := x) hx ?_
 by_cases hc : zaz x = 0
 ·have hb : (zaz x != 0) = false := by simpa using hc
  have hrl := zrC (x := x) (by omega) hc
  refine gq2 hb ?_
  refine c_rqrKey ?_
  rw [show zgJ x = zrD x from if_pos hc]
  refine gq1 ?_
  refine zkZ (zd hT) (by omega) hL.len ?_
  rw [zbZ hT]
  simp only [zpP,zrX,hc,ne_eq,not_true_eq_false,if_false] at hK
  have e1 : ztJ L x = zeh (keyF x.client) (zdA L (zrD x)) := by rw [ztJ,if_neg (by simpa using hc)]
  rw [e1] at hK
  have hl1 : zfs σ.length (σ.set id (rtO (zeG L (zrD x)))) := hl.setO (zfw _ _)
  have hs1 : (σ.set id (rtO (zeG L (zrD x)))).length = σ.length := by simp
  have hG1 : (σ.set id (rtO (zeG L (zrD x))))[id2]? = some (rlO G) := by rw [List.getElem?_set_ne h1]; exact hG
  obtain ⟨S1,hS1⟩ : ∃ S1, σ.set id (rtO (zeG L (zrD x))) = S1 := ⟨_,rfl⟩
  rw [hS1] at hK hG1 hs1 hl1 ⊢
  have r1 : σ.length = S1.length := hs1.symm
  refine gq2 r1 ?_
  refine c_rgSign (zd hG1) hGl ?_
  rw [zbZ hG1]
  obtain ⟨N,hN⟩ : ∃ N,zeh (keyF x.client) (zdA L (zrD x)) = N := ⟨_,rfl⟩
  have hl2 : zfs σ.length (S1.set id2 (rlO (zfI G (keyF x.client) (zdA L (zrD x))))) := hl1.setO (rlO_low _ _)
  have hs2 : (S1.set id2 (rlO (zfI G (keyF x.client) (zdA L (zrD x))))).length = S1.length := by simp
  obtain ⟨S2,hS2⟩ : ∃ S2,S1.set id2 (rlO (zfI G (keyF x.client) (zdA L (zrD x)))) = S2 := ⟨_,rfl⟩
  rw [hS2] at hK hs2 hl2 ⊢
  have r2 : σ.length = S2.length := by rw [r1]; exact hs2.symm
  have r3 : S1.length = S2.length := hs2.symm
  rw [r2] at hl2
  rw [hN] at hK ⊢
  simp only [zvx]
  by_cases hN0 : N = 0
  ·have hq : (N != 0) = false := by simpa using hN0
   have e2 : zlK L x = ⟨x.client,x.time,x.op,keyF x.client,zdA L (zrD x)⟩ := by rw [zlK,if_pos (by rw [e1,hN,hN0])]
   have e3 : signR (keyF x.client) (zdA L (zrD x)) = ⟨keyF x.client,zdA L (zrD x)⟩ := by rw [signR,if_pos (by rw [hN,hN0])]
   rw [e2] at hK
   rw [e3]
   refine gq2 (zf hq (zf r2 r3)) ?_
   rw [hN0] at hK
   refine zef rfl ?_ hl2 ?_
   ·simp [zeD,dmT,dm,dm1,zcC,zbT,zeN]
   ·exact hK
  ·have hq : (N != 0) = true := by simpa using hN0
   have e2 : zlK L x = noSg := by rw [zlK,if_neg (by rw [e1,hN]; exact hN0)]
   rw [e2] at hK
   rw [show signR (keyF x.client) (zdA L (zrD x)) = ⟨0, 0⟩ from by rw [signR,if_neg (by rw [hN]; exact hN0)]]
   refine gq2 (zf hq (zf r2 r3)) ?_
   refine zef rfl ?_ hl2 ?_
   ·simp [zeD,dmT,dm,dm1,zcC,zbT,zeN]
   ·exact hK
 ·have hb : (zaz x != 0) = true := by simpa using hc
  have e1 : ztJ L x = zaz x := if_pos hc
  have e2 : zlK L x = noSg := by rw [zlK,if_neg (by rw [e1]; exact hc)]
  rw [e1,e2,zpP,zrX,if_pos hc,if_pos hc,zbo hT,zbo hG] at hK
  refine gq2 hb ?_
  refine zV hl ?_
  exact hK
theorem c_rqrDigest {σ : List zh} {id : Nat} {L : List (List UInt8)} {l : List zp} (hT : σ[id]? = some (rtO L)) (hL : zlH L)
  (hx : ∀ s ∈ l,zkr s.op ≤ 20971520) (hll : l.length ≤ 1073741824) {K : KT} (hK : K (.tup [.d (.int .i64 (digD L l)), .d (.int .i64 (digE L l))]) (σ.set id (rtO (zkW L l)))) :
  zr Tryz.prog zlT [.box id 0, .d (.slice (zdf l))] σ K := by
 refine zfJ e_r08_Digest fun hl => ?_
 have hok : okB l := ⟨hll,fun s hs => sizes (hx s hs)⟩
 simp only [zqZ,iN,bT,bF,eN]
 refine gq1 ?_
 refine zpl hok ?_
 by_cases hc : zY l = 0
 ·have hq : (zY l != 0) = false := by simpa using hc
  have hbl := znv hx
  have hc' : ¬ zY l ≠ 0 := by simpa using hc
  rw [show digD L l = zdA L (zkb l) from if_neg hc',show zkW L l = zeG L (zkb l) from if_neg hc',show digE L l = if zdA L (zkb l) = 0 then 6 else 0 from if_neg hc'] at hK
  refine gq2 hq ?_
  refine c_rPutBatch (b := []) (by simp) hx hll ?_
  rw [List.nil_append,show zfC l = zkb l from if_pos hc] at *
  refine gq1 ?_
  refine zkZ hT (by omega) hL.len ?_
  have hl1 : zfs σ.length (σ.set id (rtO (zeG L (zkb l)))) := hl.setO (zfw _ _)
  by_cases h0 : zdA L (zkb l) = 0
  ·rw [if_pos h0] at hK
   rw [h0] at hK ⊢
   refine gq5 ?_
   refine zgQ (by simp) ?_ hl1 ?_
   ·simp [zeD,dmT,dm,dm1,zcC,zbT]
   ·exact hK
  ·rw [if_neg h0] at hK
   have h0' : (zdA L (zkb l) == 0) = false := by simpa using h0
   refine gq2 h0' ?_
   refine zgQ (by simp) ?_ hl1 ?_
   ·simp [zeD,dmT,dm,dm1,zcC,zbT]
   ·exact hK
 ·have hq : (zY l != 0) = true := by simpa using hc
  rw [digD,digE,zkW,if_pos hc,if_pos hc,if_pos hc,zbo hT] at hK
  refine gq2 hq ?_
  refine zV hl ?_
  exact hK
theorem c_auMay {σ : List zh} {a b c d : Int} {K : KT} (hK : K (.d (.bool (zqL a b c d))) σ) :
  zr Tryz.prog zqg [.d (.int .i64 a), .d (.int .i64 b), .d (.int .i64 c), .d (.int .i64 d)] σ K := by
 refine acE4 e_auth_may fun hl => ?_
 rw [mayV_all] at hK
 simp only [zvr,iN,bT,bF,eN]
 refine gq1 ?_
 have hg : ∀ (k : Nat) x, [a,b,c,d][k]? = some x → [[D.int .i64 a], [D.int .i64 b], [D.int .i64 c], [D.int .i64 d]][k]? = some [D.int .i64 x] := fun k x h => by
  have := zR (f := fun t => [D.int .i64 t]) h
  simpa using this
 have hl4 : [a,b,c,d].length = 4 := rfl
 obtain ⟨l,hlq⟩ : ∃ l, [a,b,c,d] = l := ⟨_,rfl⟩
 rw [hlq] at hK hl4 hg
 refine zt 4 (fun k vs s => vs = [.d (.int .i64 k)] ∧ (∃ T,s = σ ++ T) ∧ (l.take k).all zdj = true) ⟨rfl,⟨[],(List.append_nil σ).symm⟩,by simp⟩ ?_
 rintro k vs s hk ⟨rfl,⟨T,rfl⟩,hok⟩
 by_cases hlt : k < 4
 ·have hd : decide ((k : Int) < ((4 : Nat) : Int)) = true := by simp; omega
  have hx : l[k]? = some (l[k]'(by omega)) := List.getElem?_eq_getElem _
  have hgx := hg k _ hx
  obtain ⟨x,hxe⟩ : ∃ x,(l[k]'(by omega)) = x := ⟨_,rfl⟩
  rw [hxe] at hx hgx
  have bad : zdj x = false → l.all zdj = false := fun h => by
   rw [Bool.eq_false_iff]
   intro hall
   have := List.all_eq_true.1 hall x (List.mem_of_getElem? hx)
   rw [h] at this; cases this
  have hx2 : zdj x = (decide (0 ≤ x) && decide (x ≤ 9007199254740992)) := by simp [zdj]
  cases h1 : decide (x < 0)
  ·cases h2 : decide (x > 9007199254740992)
   ·refine gq2 (zf hd (zf hgx (zf h1 (zf h2 (wki k (by omega)))))) ?_
    refine zaF.next hlt ⟨rfl,⟨_,rfl⟩, ?_⟩
    rw [List.take_add_one,hx]
    simp only [List.all_append,hok,Option.toList_some,List.all_cons,List.all_nil,Bool.true_and,Bool.and_true]
    simp at h1 h2
    simp [zdj]; omega
   ·rw [bad (by simp at h2; simp [zdj]; omega)] at hK
    refine gq2 (zf hd (zf hgx (zf h1 h2))) ?_
    refine zV hl ?_
    exact hK
  ·rw [bad (by simp at h1; simp [zdj]; omega)] at hK
   refine gq2 (zf hd (zf hgx h1)) ?_
   refine zV hl ?_
   exact hK
 ·have hd : decide ((k : Int) < ((4 : Nat) : Int)) = false := by simp; omega
  rw [List.take_of_length_le (by omega)] at hok
  rw [hok] at hK
  refine gq2 hd ?_
  refine zV hl ?_
  exact hK
theorem c_auPut {σ : List zh} {b : List UInt8} {l : List Int} (hb : b.length ≤ 1000000) (hl0 : l.length ≤ 1000) (hi : ∀ x ∈ l, 0 ≤ x ∧ x ≤ 9007199254740992) {K : KT} (hK : K (.d (.slice (bcs (b ++ zhE l)))) σ) :
  zr Tryz.prog zqf [.d (.slice (bcs b)), .d (.slice (zdB l))] σ K := by
 refine zfJ e_auth_put fun hl => ?_
 simp only [zvq,iN,bT,bF,eN]
 refine gq1 ?_
 refine zt l.length (fun k vs s => (∃ x,vs = [x, .d (.int .i64 k)] ∧ (x = .d (.slice (bcs (b ++ zhE (l.take k)))) ∨ ∃ t,x = .own t (bcs (b ++ zhE (l.take k))))) ∧ ∃ T,s = σ ++ T) ⟨⟨_,rfl, .inl (by simp [zhE])⟩, [],by simp⟩ ?_
 rintro k vs s hk ⟨⟨y,rfl,hy⟩,T,rfl⟩
 have hdy : dm y = .d (.slice (bcs (b ++ zhE (l.take k)))) := by
  rcases hy with rfl | ⟨t,rfl⟩ <;> rfl
 by_cases hlt : k < l.length
 ·have hd : decide ((k : Int) < (l.length : Int)) = true := by simp; omega
  have hx : l[k]? = some l[k] := by simp [hlt]
  have hxi := hi _ (List.getElem_mem hlt)
  have hgx := zR (f := fun t => [D.int .i64 t]) hx
  obtain ⟨x,hxe⟩ : ∃ x,l[k] = x := ⟨_,rfl⟩
  rw [hxe] at hx hgx hxi
  have hm1 : (if x > 0 then x else 0) = x := by split <;> omega
  have hm2 : (if 0 < x then x else 0) = x := by split <;> omega
  have hw : IntKind.u64.wrap x = ((x.toNat : Nat) : Int) := by
   rw [show x = ((x.toNat : Nat) : Int) by omega,zcU (by omega)]; rfl
  have hln := zlO (l := l.take k) (fun y hy => by have := hi y (List.mem_of_mem_take hy); omega)
  have hlk : (l.take k).length = k := by rw [List.length_take]; omega
  have hw2 : IntKind.i64.wrap ((k : Int) + 1) = ((k + 1 : Nat) : Int) := by rw [zU (by omega) (by omega)]; rfl
  have hbl : (b ++ zhE (l.take k)).length ≤ 1073741824 := by rw [List.length_append]; omega
  rcases hy with rfl | ⟨t,rfl⟩
  ·refine gq2 (zf hd (zf hgx (zf hm1 (zf hm2 hw)))) ?_
   refine zld (by omega) hbl ?_
   refine gq2 hw2 ?_
   exact zaF.next hlt ⟨⟨_,rfl, .inr ⟨_,by rw [zmI hx]⟩⟩,_,rfl⟩
  ·refine gq2 (zf hd (zf hgx (zf hm1 (zf hm2 hw)))) ?_
   refine zld (by omega) hbl ?_
   refine gq2 hw2 ?_
   exact zaF.next hlt ⟨⟨_,rfl, .inr ⟨_,by rw [zmI hx]⟩⟩,_,rfl⟩
 ·have hd : decide ((k : Int) < (l.length : Int)) = false := by simp; omega
  rw [List.take_of_length_le (by omega)] at hy
  rcases hy with rfl | ⟨t,rfl⟩
  ·refine gq2 hd ?_
   refine zV hl ?_
   exact hK
  ·refine gq2 hd ?_
   refine zV hl ?_
   exact hK
theorem may_all {a b c d : Int} (h : zqL a b c d = true) : ∀ x ∈ [a,b,c,d], 0 ≤ x ∧ x ≤ 9007199254740992 := by
 rw [mayV_all,List.all_eq_true] at h
 exact fun x hx => zfb.1 (h x hx)
theorem zwr {σ : List zh} {a b c d : Int} (h : zqL a b c d = true) {K : KT} (hK : K (.d (.slice (bcs (zfK a b c d)))) σ) :
  zr Tryz.prog zhe [.d (.int .i64 a), .d (.int .i64 b), .d (.int .i64 c), .d (.int .i64 d)] σ K := by
 refine acE4 zrw fun hl => ?_
 simp only [zlv,iN,bT,bF,eN]
 refine gq1 ?_
 refine c_auPut (b := [4]) (l := [a,b,c,d]) (by simp) (by simp) (may_all h) ?_
 refine gq1 ?_
 refine zV hl ?_
 exact hK
theorem c_auMade {σ : List zh} {id m t id2 m2 t2 : Nat} {l : List (List UInt8)} {g : List zJ} (hT : zdo σ id m t l) (hG : zee σ id2 m2 t2 g) (hL : zlH l) (hg : g.length ≤ 1073741824) {K : KT}
  (hK : K (.d (.bool true)) σ) : zr Tryz.prog znT [.box id 0, .box id2 0] σ K := by
 refine zfJ e_auth_made fun hl => ?_
 simp only [ztA,iN,bT,bF,eN]
 refine gq1 ?_
 refine zpj hT hL.nd hL.len hL.each ?_
 refine gq1 ?_
 refine zpn (hG.app _) hg fun g' => ?_
 refine gq1 ?_
 refine zV hl ?_
 exact hK
theorem c_auSigned {σ : List zh} {id m t id2 m2 t2 : Nat} {L : List (List UInt8)} {G : List zJ} {s : zJ} {key : Int} {b : List UInt8} (hT : zdo σ id m t L) (hG : zee σ id2 m2 t2 G) {K : KT}
  (hK : K (.d (.bool (znK L G s key b))) σ) : zr Tryz.prog zkO [.box id 0, .box id2 0, .agg [.d (.int .i64 s.key), .d (.int .i64 s.dig)], .d (.int .i64 key), .d (.slice (bcs b))] σ K := by
 refine acE5 zwa fun hl => ?_
 have hT1 := fun τ => hT.app τ
 have hG1 := fun τ => hG.app τ
 simp only [zpG,iN,bT,bF,eN]
 refine gq1 ?_
 refine zoq (hT1 _) ?_
 have fin : ∀ z,znK L G s key b = z → K (.d (.bool z)) σ := fun z h => h ▸ hK
 clear hK
 cases hlk : zdc L b with
 | none =>
  refine gq5 ?_
  refine zV hl ?_
  exact fin _ (by simp [znK,hlk])
 | some i =>
  simp only [zjH]
  cases h1 : (s.key == key)
  ·refine gq8 h1 ?_
   refine zV hl ?_
   exact fin _ (by simp at h1; simp [znK,hlk,h1])
  ·cases h2 : (s.dig == ((i + 1 : Nat) : Int))
   ·refine gq8 (zf h1 h2) ?_
    refine zV hl ?_
    exact fin _ (by simp at h1 h2; simp [znK,hlk,h1]; omega)
   ·refine gq8 (zf h1 h2) ?_
    refine c_gSigned (s := s) (hG1 _) ?_
    refine gq1 ?_
    refine zV hl ?_
    exact fin _ (by simp at h1 h2; simp [znK,hlk,h1,h2])
theorem zws {σ : List zh} {id m t id2 m2 t2 : Nat} {L : List (List UInt8)} {G : List zJ} {s : zJ} {key a b c d : Int} (hT : zdo σ id m t L) (hG : zee σ id2 m2 t2 G) (hL : zlH L) (hg : G.length ≤ 1073741824) {K : KT}
  (hK : K (.d (.bool (zrL L G s key a b c d))) σ) :
  zr Tryz.prog zhf [.box id 0, .box id2 0, .agg [.d (.int .i64 s.key), .d (.int .i64 s.dig)], .d (.int .i64 key), .d (.int .i64 a), .d (.int .i64 b), .d (.int .i64 c), .d (.int .i64 d)] σ K := by
 refine acE8 zrx fun hl => ?_
 simp only [zlw,iN,bT,bF,eN]
 refine gq1 ?_
 refine c_auMade (hT.app _) (hG.app _) hL hg ?_
 refine gq1 ?_
 refine c_auMay ?_
 cases hm : zqL a b c d
 ·rw [zrL,hm,Bool.false_and] at hK
  refine gq1 ?_
  refine zV hl ?_
  exact hK
 ·rw [zrL,hm,Bool.true_and] at hK
  refine gq1 ?_
  refine zwr hm ?_
  refine gq1 ?_
  refine c_auSigned (s := s) (hT.app _) (hG.app _) ?_
  refine gq1 ?_
  refine zV hl ?_
  exact hK
end Go.Proofs.YtfgbofkdhfjegaaGreat

/- What a new view goes on with. No program in sight. -/
namespace Go.AW
def zdD (f : Int) : Int := if f < 1 ∨ f > 4 then 120 else 0
def zdQ (n f : Int) : Int := if f < 1 ∨ f > 4 then 0 else n * f + 1
end Go.AW
